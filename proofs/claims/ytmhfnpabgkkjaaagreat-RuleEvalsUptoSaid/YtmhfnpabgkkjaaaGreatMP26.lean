/- Own texts, merged: QT, QU. -/
import Derived.Deep.Slices
import Derived.Test.YtmhfnpabgkkjaaaGreatMP25
/- Walk: the reference's row. -/
namespace Go.Proofs.YtmhfnpabgkkjaaaGreat
open Go.RowKit Go.Shelf
attribute [local go_sem] run_store_float
/-- A value of Read: a tree, what is left, is it bad. -/
def RVal (A : Nat → Prop) (B : Nat) (w : World) (v : Value) (res : Option (Tree × List Tok)) : Prop :=
  ∃ o n s x l c y m d bad t, v = .agg #[.string o, .float .f64 n, .string s, .slice x l c, .slice y m d, .bool bad] ∧ NodeV A w (.agg #[.string o, .float .f64 n, .string s, .slice x l c]) t ∧
    ((bad = true ∧ res = none) ∨ (bad = false ∧ ∃ ts, res = some (t, ts) ∧ TokV B w (.slice y m d) ts ∧ KOk ts))
def REnd (B : Nat) (res : Option (Tree × List Tok)) (w : World) (e : Ending) (w' : World) : Prop :=
  Below w.heap.size w w' ∧ ∃ v, e = .returned v ∧ RVal (fun b => w.heap.size ≤ b) B w' v res
/-- The modes of a level's row, of its parts, of its tail. -/
def lm (lv : Nat) : Mode := if lv = 0 then .or else if lv = 1 then .and else if lv = 2 then .sum else .prod
def pm (lv : Nat) : Mode := if lv = 0 then .and else if lv = 1 then .not else if lv = 2 then .prod else .signed
def tm (lv : Nat) (a : Tree) : Mode := if lv = 0 then .orT a else if lv = 1 then .andT a else if lv = 2 then .sumT a else .prodT a
def lvlR (lv : Nat) : Nat := if lv = 0 then 11 else if lv = 1 then 9 else if lv = 2 then 6 else 4
def lvlP (lv : Nat) : Nat := if lv = 0 then 9 else if lv = 1 then 7 else if lv = 2 then 4 else 2
theorem P_row (n lv : Nat) (hlv : lv < 4) (ts : List Tok) : P valV true (n + 1) (lm lv) ts = match P valV true n (pm lv) ts with | none => none | some (a, r) => P valV true n (tm lv a) r := by
  match lv, hlv with
  | 0, _ => show P valV true (n + 1) .or ts = match P valV true n .and ts with | none => none | some (a, r) => P valV true n (.orT a) r; simp only [P]; rfl
  | 1, _ => show P valV true (n + 1) .and ts = match P valV true n .not ts with | none => none | some (a, r) => P valV true n (.andT a) r; simp only [P]; rfl
  | 2, _ => show P valV true (n + 1) .sum ts = match P valV true n .prod ts with | none => none | some (a, r) => P valV true n (.sumT a) r; simp only [P]; rfl
  | 3, _ => show P valV true (n + 1) .prod ts = match P valV true n .signed ts with | none => none | some (a, r) => P valV true n (.prodT a) r; simp only [P]; rfl
theorem isTok_s {ts : List Tok} {k : Nat} {x : Bs} (h : isTok ts k x = true) : (ts.headD ⟨0, []⟩).s = x := by
  cases ts with
  | nil => cases h
  | cons t r =>
    simp only [isTok, Bool.and_eq_true, decide_eq_true_eq] at h
    exact h.2
theorem adv_true (t : Tok) (r : List Tok) : adv true (t :: r) = some r := by
  simp only [adv]
  rw [if_neg (by simp)]
theorem P_tail_no (n lv : Nat) (hlv : lv < 4) (a : Tree) (ts : List Tok) (h : betw lv ts = []) : P valV true (n + 1) (tm lv a) ts = some (a, ts) := by
  match lv, hlv with
  | 0, _ =>
    have hq : ¬ isTok ts 2 wor = true := fun q => by simp only [betw, if_pos, q] at h; cases h
    show P valV true (n + 1) (.orT a) ts = _
    simp only [P]
    exact if_neg hq
  | 1, _ =>
    have hq : ¬ isTok ts 2 wand = true := fun q => by simp [betw, q] at h; cases h
    show P valV true (n + 1) (.andT a) ts = _
    simp only [P]
    exact if_neg hq
  | 2, _ =>
    have hq : ¬ (isTok ts 4 [43] = true ∨ isTok ts 4 [45] = true) := fun q => by
      have e : betw 2 ts = (ts.headD ⟨0, []⟩).s := by simp only [betw]; rw [if_neg (by decide), if_neg (by decide), if_pos trivial, if_pos q]
      rw [e] at h
      rcases q with q | q <;> rw [isTok_s q] at h <;> cases h
    show P valV true (n + 1) (.sumT a) ts = _
    simp only [P]
    exact if_neg hq
  | 3, _ =>
    have hq : ¬ (isTok ts 4 [42] = true ∨ isTok ts 4 [47] = true) := fun q => by
      have e : betw 3 ts = (ts.headD ⟨0, []⟩).s := by simp only [betw]; rw [if_neg (by decide), if_neg (by decide), if_neg (by decide), if_pos q]
      rw [e] at h
      rcases q with q | q <;> rw [isTok_s q] at h <;> cases h
    show P valV true (n + 1) (.prodT a) ts = _
    simp only [P]
    exact if_neg hq
theorem P_tail_yes (n lv : Nat) (hlv : lv < 4) (a : Tree) (t : Tok) (r : List Tok) (h : betw lv (t :: r) ≠ []) : P valV true (n + 1) (tm lv a) (t :: r) = match P valV true n (pm lv) r with | none => none | some (b, r') => P valV true n (tm lv (two (betw lv (t :: r)) a b)) r' := by
  match lv, hlv with
  | 0, _ =>
    have hq : isTok (t :: r) 2 wor = true := by
      cases q : isTok (t :: r) 2 wor
      · exact absurd (by simp [betw, q]) h
      · rfl
    have e : betw 0 (t :: r) = wor := by simp [betw, hq]
    rw [e]
    show P valV true (n + 1) (.orT a) (t :: r) = match P valV true n .and r with | none => none | some (b, r') => P valV true n (.orT (two wor a b)) r'
    simp only [P]
    rw [if_pos hq, adv_true]
    rfl
  | 1, _ =>
    have hq : isTok (t :: r) 2 wand = true := by
      cases q : isTok (t :: r) 2 wand
      · exact absurd (by simp [betw, q]) h
      · rfl
    have e : betw 1 (t :: r) = wand := by simp [betw, hq]
    rw [e]
    show P valV true (n + 1) (.andT a) (t :: r) = match P valV true n .not r with | none => none | some (b, r') => P valV true n (.andT (two wand a b)) r'
    simp only [P]
    rw [if_pos hq, adv_true]
    rfl
  | 2, _ =>
    have hq : isTok (t :: r) 4 [43] = true ∨ isTok (t :: r) 4 [45] = true := by
      by_cases q : isTok (t :: r) 4 [43] = true ∨ isTok (t :: r) 4 [45] = true
      · exact q
      · exact absurd (by simp only [betw]; rw [if_neg (by decide), if_neg (by decide), if_pos trivial, if_neg q]) h
    have e : betw 2 (t :: r) = t.s := by simp only [betw]; rw [if_neg (by decide), if_neg (by decide), if_pos trivial, if_pos hq]; rfl
    rw [e]
    show P valV true (n + 1) (.sumT a) (t :: r) = match P valV true n .prod r with | none => none | some (b, r') => P valV true n (.sumT (two t.s a b)) r'
    simp only [P]
    rw [if_pos hq, adv_true]
    rfl
  | 3, _ =>
    have hq : isTok (t :: r) 4 [42] = true ∨ isTok (t :: r) 4 [47] = true := by
      by_cases q : isTok (t :: r) 4 [42] = true ∨ isTok (t :: r) 4 [47] = true
      · exact q
      · exact absurd (by simp only [betw]; rw [if_neg (by decide), if_neg (by decide), if_neg (by decide), if_neg q]) h
    have e : betw 3 (t :: r) = t.s := by simp only [betw]; rw [if_neg (by decide), if_neg (by decide), if_neg (by decide), if_pos hq]; rfl
    rw [e]
    show P valV true (n + 1) (.prodT a) (t :: r) = match P valV true n .signed r with | none => none | some (b, r') => P valV true n (.prodT (two t.s a b)) r'
    simp only [P]
    rw [if_pos hq, adv_true]
    rfl
/-- All pieces but the first one. -/
theorem tok_slice {B : Nat} {w : World} {y : Option Addr} {m d : Nat} {t : Tok} {r : List Tok} (h : TokV B w (.slice y m d) (t :: r)) :
    ∃ y2 m2 d2, (∀ W, (Instr.slice 55 (.slice y m d) (some (.int .i64 1)) none none).run Tryz.prog W = .ok (.slice y2 m2 d2) W) ∧ TokV B w (.slice y2 m2 d2) r := by
  obtain ⟨x, cap, hv, hcap, hx, hc⟩ := h
  cases hv
  obtain ⟨a, rfl⟩ : ∃ a, y = some a := by
    cases y with
    | none => have := hx rfl; cases this
    | some a => exact ⟨a, rfl⟩
  refine ⟨if d = 1 then some a else some (a.add 2), r.length, d - 1, fun W => ?_, ?_⟩
  · have hl : (1 : Int) ≤ ((t :: r).length : Int) := by simp; omega
    refine (run_slice_l W 55 (some a) (t :: r).length d (show Tryz.prog.underlying 55 = some (.slice (Tryz.prog.elem 55)) by kernel_rfl) .i64 1 (by decide) hl).trans ?_
    have hsz : (sizeOf (Tryz.prog.elem 55)).run Tryz.prog W = .ok 2 W := by
      have he : Tryz.prog.elem 55 = 76 := by kernel_rfl
      rw [he]
      have e : Tryz.t76.size = 2 := by kernel_rfl
      simp [sizeOf, go_sem, e]
    rw [hsz]
    rfl
  · refine ⟨_, _, rfl, by rw [List.length_cons] at hcap; omega, (fun h => by split at h <;> cases h), fun b hb i u hi => ?_⟩
    have hd : d ≠ 1 := fun e => by
      subst e
      have : r.length = 0 := by rw [List.length_cons] at hcap; omega
      rw [List.length_eq_zero_iff.1 this] at hi
      cases hi
    rw [if_neg hd] at hb
    cases hb
    obtain ⟨g1, g2, g3⟩ := hc a rfl (i + 1) u (by simpa using hi)
    refine ⟨by rw [add_block]; exact g1, ?_, ?_⟩
    · rw [Go.Deep.add_add, show 2 + i * 2 = (i + 1) * 2 by omega]; exact g2
    · rw [Go.Deep.add_add, show 2 + (i * 2 + 1) = (i + 1) * 2 + 1 by omega]; exact g3
/-- A reader of a level, of the reference. -/
def RC (B : Nat) (F : Nat) (lv : Nat) (m : Mode) (lvl n : Nat) : Prop :=
  ∀ ts v w, 12 * ts.length + lvl ≤ n → ts.length ≤ 1000000 → B ≤ w.heap.size → KOk ts → TokV B w v ts → Calls Tryz.prog F #[v, .int .i64 lv] w (REnd B (P valV true n m ts) w)
/-- A variable of Read. -/
def RB (w : World) (g : Nat) (v0 v1 v2 v3 v4 v5 : Value) : Prop := w.heap[g]? = some (.cells #[v0, v1, v2, v3, v4, v5] 59 (0, 0))
theorem RB.cells {w : World} {g : Nat} {v0 v1 v2 v3 v4 v5 : Value} (h : RB w g v0 v1 v2 v3 v4 v5) : w.cell? ⟨g, 0, none⟩ = some v0 ∧ w.cell? ⟨g, 1, none⟩ = some v1 ∧ w.cell? ⟨g, 2, none⟩ = some v2 ∧ w.cell? ⟨g, 3, none⟩ = some v3 ∧ w.cell? ⟨g, 4, none⟩ = some v4 ∧ w.cell? ⟨g, 5, none⟩ = some v5 := by
  unfold RB at h
  exact ⟨by simp [World.cell?, h], by simp [World.cell?, h], by simp [World.cell?, h], by simp [World.cell?, h], by simp [World.cell?, h], by simp [World.cell?, h]⟩
theorem RB.fr {w : World} {g : Nat} {v0 v1 v2 v3 v4 v5 : Value} (h : RB w g v0 v1 v2 v3 v4 v5) (j : Nat) : w.frozen? ⟨g, j, none⟩ = false := by unfold RB at h; simp [World.frozen?, h]
theorem RB.lt {w : World} {g : Nat} {v0 v1 v2 v3 v4 v5 : Value} (h : RB w g v0 v1 v2 v3 v4 v5) : g < w.heap.size := (Array.getElem?_eq_some_iff.1 h).1
theorem RB.below {w w' : World} {g : Nat} {v0 v1 v2 v3 v4 v5 : Value} (h : RB w g v0 v1 v2 v3 v4 v5) (hb : Below w.heap.size w w') : RB w' g v0 v1 v2 v3 v4 v5 := (hb.block g h.lt).trans h
def putR (w : World) (g : Nat) (v0 v1 v2 v3 v4 v5 : Value) : World := (((((w.setCell ⟨g, 0, none⟩ v0).setCell ⟨g, 1, none⟩ v1).setCell ⟨g, 2, none⟩ v2).setCell ⟨g, 3, none⟩ v3).setCell ⟨g, 4, none⟩ v4).setCell ⟨g, 5, none⟩ v5
theorem RB.put {w : World} {g : Nat} {u0 u1 u2 u3 u4 u5 v0 v1 v2 v3 v4 v5 : Value} (h : RB w g u0 u1 u2 u3 u4 u5) : RB (putR w g v0 v1 v2 v3 v4 v5) g v0 v1 v2 v3 v4 v5 := by
  unfold putR RB
  rw [set_block (set_block (set_block (set_block (set_block (set_block h _) _) _) _) _) _]
  rfl
theorem putR_other {w : World} {g j : Nat} {v0 v1 v2 v3 v4 v5 : Value} (h : j ≠ g) : (putR w g v0 v1 v2 v3 v4 v5).heap[j]? = w.heap[j]? := by
  unfold putR
  rw [set_other h, set_other h, set_other h, set_other h, set_other h, set_other h]
theorem putR_size {w : World} {g : Nat} {v0 v1 v2 v3 v4 v5 : Value} : (putR w g v0 v1 v2 v3 v4 v5).heap.size = w.heap.size := by simp [putR]
theorem below_putR {n g : Nat} {w a : World} {v0 v1 v2 v3 v4 v5 : Value} (h : Below n w a) (hg : n ≤ g) : Below n w (putR a g v0 v1 v2 v3 v4 v5) :=
  (((((h.setCell (show n ≤ (⟨g, 0, none⟩ : Addr).block from hg) v0).setCell (show n ≤ (⟨g, 1, none⟩ : Addr).block from hg) v1).setCell (show n ≤ (⟨g, 2, none⟩ : Addr).block from hg) v2).setCell (show n ≤ (⟨g, 3, none⟩ : Addr).block from hg) v3).setCell (show n ≤ (⟨g, 4, none⟩ : Addr).block from hg) v4).setCell (show n ≤ (⟨g, 5, none⟩ : Addr).block from hg) v5
theorem NodeV.putR {A : Nat → Prop} {w : World} {g : Nat} {v v0 v1 v2 v3 v4 v5 : Value} {t : Tree} (h : NodeV A w v t) (hg : ¬ A g) : NodeV A (putR w g v0 v1 v2 v3 v4 v5) v t :=
  NodeV.kept (by rw [putR_size]; exact Nat.le_refl _) (fun b h1 _ => ⟨h1, putR_other (fun e => hg (by rw [← e]; exact h1))⟩) t v h
theorem TokV.putR {B : Nat} {w : World} {g : Nat} {v v0 v1 v2 v3 v4 v5 : Value} {L : List Tok} (h : TokV B w v L) (hg : B ≤ g) : TokV B (putR w g v0 v1 v2 v3 v4 v5) v L :=
  h.kept (fun b h1 => putR_other (by omega))
theorem read_node (fn : Func) {p : Tmp} (h : fn.results = #[.cell p 59]) (tmps : Array Value) (w : World) (g : Nat) (v0 v1 v2 v3 v4 v5 : Value) (hp : tmps.getD p undef = .pointer (some ⟨g, 0, none⟩))
    (hg : RB w g v0 v1 v2 v3 v4 v5) : (results fn tmps).run Tryz.prog w = .ok (.agg #[v0, v1, v2, v3, v4, v5]) w :=
  results_cell h tmps w g 59 _ _ _ hp hg Tryz.underlying59 rfl (by kernel_rfl)
/-- What a row keeps: the result's variable, what was read so far in g. -/
structure RLI (w : World) (g : Nat) (o : ByteArray) (nn : Nat) (s : ByteArray) (x : Option Addr) (l c : Nat) (y : Option Addr) (m d : Nat) (bad : Bool) (t : Tree) (W : World) : Prop where
  node : NodeV (fun b => w.heap.size ≤ b ∧ b ≠ w.heap.size ∧ b ≠ g) W (.agg #[.string o, .float .f64 nn, .string s, .slice x l c]) t
  blk : RB W g (.string o) (.float .f64 nn) (.string s) (.slice x l c) (.slice y m d) (.bool bad)
  res : ∃ z0 z1 z2 z3 z4 z5, RB W w.heap.size z0 z1 z2 z3 z4 z5
  bel : Below w.heap.size w W
  lt : w.heap.size < g
theorem RLI.below {w W W' : World} {g : Nat} {o : ByteArray} {nn : Nat} {s : ByteArray} {x : Option Addr} {l c : Nat} {y : Option Addr} {m d : Nat} {bad : Bool} {t : Tree} (h : RLI w g o nn s x l c y m d bad t W) (hb : Below W.heap.size W W') : RLI w g o nn s x l c y m d bad t W' := by
  obtain ⟨z0, z1, z2, z3, z4, z5, hz⟩ := h.res
  exact ⟨h.node.below hb, h.blk.below hb, ⟨z0, z1, z2, z3, z4, z5, hz.below hb⟩, h.bel.trans (below_le hb h.bel.size), h.lt⟩
theorem RLI.put {w W : World} {g : Nat} {o : ByteArray} {nn : Nat} {s : ByteArray} {x : Option Addr} {l c : Nat} {y : Option Addr} {m d : Nat} {bad : Bool} {t : Tree} {o' : ByteArray} {nn' : Nat} {s' : ByteArray} {x' : Option Addr} {l' c' : Nat} {y' : Option Addr} {m' d' : Nat} {bad' : Bool} {t' : Tree}
    (h : RLI w g o nn s x l c y m d bad t W) (hn : NodeV (fun b => w.heap.size ≤ b ∧ b ≠ w.heap.size ∧ b ≠ g) W (.agg #[.string o', .float .f64 nn', .string s', .slice x' l' c']) t') :
    RLI w g o' nn' s' x' l' c' y' m' d' bad' t' (putR W g (.string o') (.float .f64 nn') (.string s') (.slice x' l' c') (.slice y' m' d') (.bool bad')) := by
  obtain ⟨z0, z1, z2, z3, z4, z5, hz⟩ := h.res
  exact ⟨hn.putR (fun hh => hh.2.2 rfl), h.blk.put, ⟨z0, z1, z2, z3, z4, z5, (putR_other (by have := h.lt; omega)).trans hz⟩, below_putR h.bel (by have := h.lt; omega), h.lt⟩
/-- What is left to read. -/
def RTail (B lv n : Nat) (res : Option (Tree × List Tok)) (y : Option Addr) (m d : Nat) (bad : Bool) (t : Tree) (gh : Nat) (W : World) : Prop :=
  (bad = true ∧ res = none) ∨ (bad = false ∧ ∃ f ts, gh = ts.length + 1 ∧ res = P valV true f (tm lv t) ts ∧ 12 * ts.length + lvlP lv + 1 ≤ f ∧ f ≤ n ∧ ts.length ≤ 1000000 ∧ TokV B W (.slice y m d) ts ∧ KOk ts)
theorem RLI.done {B : Nat} {res : Option (Tree × List Tok)} {w W : World} {g : Nat} {o : ByteArray} {nn : Nat} {s : ByteArray} {x : Option Addr} {l c : Nat} {y : Option Addr} {m d : Nat} {bad : Bool} {t : Tree} (hB : B ≤ w.heap.size) (h : RLI w g o nn s x l c y m d bad t W)
    (hr : (bad = true ∧ res = none) ∨ (bad = false ∧ ∃ ts, res = some (t, ts) ∧ TokV B W (.slice y m d) ts ∧ KOk ts)) :
    REnd B res w (.returned (.agg #[.string o, .float .f64 nn, .string s, .slice x l c, .slice y m d, .bool bad])) (putR W w.heap.size (.string o) (.float .f64 nn) (.string s) (.slice x l c) (.slice y m d) (.bool bad)) := by
  refine ⟨below_putR h.bel (Nat.le_refl _), _, rfl, o, nn, s, x, l, c, y, m, d, bad, t, rfl, (h.node.putR (fun hh => hh.2.1 rfl)).sub (fun b hb _ => hb.1), ?_⟩
  rcases hr with h1 | ⟨h1, ts, h2, h3, h4⟩
  · exact .inl h1
  · exact .inr ⟨h1, ts, h2, h3.putR hB, h4⟩
set_option maxRecDepth 100000 in
set_option maxHeartbeats 4000000 in
theorem rrow_step (B lv : Nat) (hlv : lv < 4) (n : Nat) (H : ∀ k, k ≤ n → RC B 33 lv (pm lv) (lvlP lv) k) : RC B 22 lv (lm lv) (lvlR lv) (n + 1) := by
  intro ts v w hn hl hB hK hv
  have HN := Lib.hid hn
  have HL := Lib.hid hl
  have HB := Lib.hid hB
  have HK := Lib.hid hK
  have HH := Lib.hid H
  have HT := Lib.hid hv
  have HLV := Lib.hid hlv
  have HLL := Lib.hid (show lvlP lv + 2 ≤ lvlR lv by match lv, hlv with
    | 0, _ => decide
    | 1, _ => decide
    | 2, _ => decide
    | 3, _ => decide)
  obtain ⟨x, tn, tc, rfl⟩ := hv.agg
  obtain ⟨res, hres⟩ : ∃ y, y = P valV true (n + 1) (lm lv) ts := ⟨_, rfl⟩
  rw [← hres]
  have HR := Lib.hid (hres.trans (P_row n lv hlv ts))
  clear hn hl hB hK H hv hres hlv
  go_enter Tryz.func22, Tryz.ntmps22
  go_wp2_with (first | (go_at_call 33; fail))
  go_at_call 33
  refine (HH.out n (Nat.le_refl _) ts _ _ (by have := HN.out; have := HLL.out; omega) HL.out (by have := HB.out; simp; omega) HK.out (HT.out.below ((Below.refl _ _).alloc (Nat.le_refl _) _) HB.out)).mono ?_
  rintro e w2 ⟨hb2, v2, rfl, o, nn, s, x2, l2, c2, y, m, d, bad, t, rfl, hnode, hcase⟩
  have HI : Hid (RLI w w2.heap.size o nn s x2 l2 c2 y m d bad t (w2.alloc (.cells #[.string o, .float .f64 nn, .string s, .slice x2 l2 c2, .slice y m d, .bool bad] 59))) := Lib.hid (by
    have hsz := hb2.size
    have hz : (w.alloc (.cells #[.string ⟨#[]⟩, .float .f64 0, .string ⟨#[]⟩, .slice none 0 0, .slice none 0 0, .bool false] 59)).heap.size = w.heap.size + 1 := by simp
    have hal : Below w2.heap.size w2 (w2.alloc (.cells #[.string o, .float .f64 nn, .string s, .slice x2 l2 c2, .slice y m d, .bool bad] 59)) := (Below.refl _ _).alloc (Nat.le_refl _) _
    refine ⟨(hnode.sub (fun b h1 h2 => (by have h3 : _ ≤ b := h1; rw [hz] at h3; omega : w.heap.size ≤ b ∧ b ≠ w.heap.size ∧ b ≠ w2.heap.size))).below hal, heap_alloc_new _ _, ?_, ((bel1 w _).trans (below_le hb2 (by rw [hz]; omega))).trans (below_le hal (by omega)), by omega⟩
    have hr0 : RB (w.alloc (.cells #[.string ⟨#[]⟩, .float .f64 0, .string ⟨#[]⟩, .slice none 0 0, .slice none 0 0, .bool false] 59)) w.heap.size _ _ _ _ _ _ := heap_alloc_new _ _
    exact ⟨_, _, _, _, _, _, (hr0.below hb2).below hal⟩)
  have HC : Hid (∃ gh, gh ≤ ts.length + 1 ∧ RTail B lv n res y m d bad t gh (w2.alloc (.cells #[.string o, .float .f64 nn, .string s, .slice x2 l2 c2, .slice y m d, .bool bad] 59))) := Lib.hid (by
    have hsz := hb2.size
    rcases hcase with ⟨h1, h2⟩ | ⟨h1, ts1, h2, h3, h4⟩
    · exact ⟨0, Nat.zero_le _, .inl ⟨h1, by rw [HR.out, h2]⟩⟩
    · have hlen := (P_len valV true n (pm lv) ts t ts1 h2).1
      refine ⟨ts1.length + 1, by omega, .inr ⟨h1, n, ts1, rfl, by rw [HR.out, h2], by have := HN.out; have := HLL.out; omega, Nat.le_refl _, by have := HL.out; omega, h3.below ((Below.refl _ _).alloc (Nat.le_refl _) _) (by have := HB.out; simp at hsz; omega), h4⟩⟩)
  clear hb2 hnode hcase HR HT HK
  go_wp2_with fail
  generalize w2.alloc (.cells #[.string o, .float .f64 nn, .string s, .slice x2 l2 c2, .slice y m d, .bool bad] 59) = W0 at HI HC ⊢
  generalize w2.heap.size = g at HI ⊢
  obtain ⟨gh0, hgh, hc0⟩ := HC.out
  have HC0 := Lib.hid hc0
  clear hc0 HC hgh
  go_loopg [] gh0 (fun gh wr => ∃ o nn s x l c y m d bad t, Hid (RLI w g o nn s x l c y m d bad t wr) ∧ Hid (RTail B lv n res y m d bad t gh wr))
  case atStart => exact ⟨o, nn, s, x2, l2, c2, y, m, d, bad, t, HI, HC0⟩
  case round =>
    obtain ⟨o, nn, s, x3, l3, c3, y, m, d, bad, t, HI1, HT1⟩ := hrel
    obtain ⟨e0, e1, e2, e3, e4, e5⟩ := HI1.out.blk.cells
    have HLT := HI1.out.lt
    cases bad
    · obtain ⟨f, ts1, hgk, hres, hf1, hf2, hlen, htok, hko⟩ : ∃ f ts, gk = ts.length + 1 ∧ res = P valV true f (tm lv t) ts ∧ 12 * ts.length + lvlP lv + 1 ≤ f ∧ f ≤ n ∧ ts.length ≤ 1000000 ∧ TokV B wr (.slice y m d) ts ∧ KOk ts := by
        rcases HT1.out with ⟨h, _⟩ | ⟨_, h⟩
        · cases h
        · exact h
      obtain ⟨f, rfl⟩ : ∃ f', f = f' + 1 := ⟨f - 1, by omega⟩
      have HBT := Lib.hid (fun W (hW : TokV B W (.slice y m d) ts1) => rbetween lv HLV.out B (.slice y m d) ts1 hko hlen W hW)
      have HTOK := Lib.hid htok
      have HRES := Lib.hid hres
      have HF := Lib.hid (And.intro hf1 (And.intro hf2 hlen))
      have HKO := Lib.hid hko
      have HGK := Lib.hid hgk
      clear hf1 hf2 hlen htok hres hko hgk HT1
      by_cases hb : betw lv ts1 = []
      · have HRS : Hid (res = some (t, ts1)) := Lib.hid (by rw [HRES.out, P_tail_no f lv HLV.out t ts1 hb])
        rw [hb] at HBT
        clear hb
        obtain ⟨z0, z1, z2, z3, z4, z5, hz⟩ := HI1.out.res
        obtain ⟨k0, k1, k2, k3, k4, k5⟩ := hz.cells
        have HZ := Lib.hid hz
        have f0 := hz.fr 0
        have f1 := hz.fr 1
        have f2 := hz.fr 2
        have f3 := hz.fr 3
        have f4 := hz.fr 4
        have f5 := hz.fr 5
        have b0 : (tx []).toList.isEmpty = true := by rw [tx_toList]; rfl
        clear hz
        go_wp2_with (first | (go_at_call 34; refine (HBT.out _ HTOK.out).mono ?_; rintro e w5 ⟨rfl, rfl⟩))
        go_wp2
        rw [HRS.out]
        exact bodyPost_ret (read_node _ rfl _ _ w.heap.size _ _ _ _ _ _ rfl HZ.out.put) rfl (HI1.out.done HB.out (.inr ⟨rfl, ts1, rfl, HTOK.out, HKO.out⟩))
      · obtain ⟨t0, r0, rfl⟩ : ∃ t0 r0, ts1 = t0 :: r0 := by
          cases ts1 with
          | nil => exact absurd (by match lv, HLV.out with
              | 0, _ => rfl
              | 1, _ => rfl
              | 2, _ => rfl
              | 3, _ => rfl) hb
          | cons t0 r0 => exact ⟨t0, r0, rfl⟩
        have HRS := Lib.hid (HRES.out.trans (P_tail_yes f lv HLV.out t t0 r0 hb))
        obtain ⟨op, hop⟩ : ∃ op, op = betw lv (t0 :: r0) := ⟨_, rfl⟩
        rw [← hop] at HBT HRS
        have b0 : (tx op).toList.isEmpty = false := by rw [tx_toList]; rw [hop]; simpa using hb
        obtain ⟨y2, m2, d2, hsl, htok2⟩ := tok_slice HTOK.out
        have HTOK2 := Lib.hid htok2
        have HKO2 := Lib.hid HKO.out.tail
        have HPART := Lib.hid (fun W hW hT => HH.out f (by have := HF.out; omega) r0 (.slice y2 m2 d2) W (by have := HF.out; simp at this; omega) (by have := HF.out; simp at this; omega) hW HKO2.out hT)
        clear hb hop htok2
        go_wp2_with (first | (go_at_call 34; refine (HBT.out _ HTOK.out).mono ?_; rintro e w5 ⟨rfl, rfl⟩))
        clear HBT b0
        go_at_call 33
        refine (HPART.out _ (by have := HB.out; have := HI1.out.bel.size; omega) HTOK2.out).mono ?_
        rintro e w5 ⟨hb5, v5, rfl, o2, nn2, s2, x4, l4, c4, y4, m4, d4, bad2, t2, rfl, hnode2, hcase2⟩
        have HI7 : Hid (RLI w g o nn s x3 l3 c3 y m d false t (w5.alloc (.cells #[.string o2, .float .f64 nn2, .string s2, .slice x4 l4 c4, .slice y4 m4 d4, .bool bad2] 59))) := Lib.hid ((HI1.out.below hb5).below ((Below.refl _ _).alloc (Nat.le_refl _) _))
        have HG7 : Hid (RB (w5.alloc (.cells #[.string o2, .float .f64 nn2, .string s2, .slice x4 l4 c4, .slice y4 m4 d4, .bool bad2] 59)) w5.heap.size (.string o2) (.float .f64 nn2) (.string s2) (.slice x4 l4 c4) (.slice y4 m4 d4) (.bool bad2)) := Lib.hid (heap_alloc_new _ _)
        have HND7 : Hid (NodeV (fun b => w.heap.size ≤ b ∧ b ≠ w.heap.size ∧ b ≠ g) (w5.alloc (.cells #[.string o2, .float .f64 nn2, .string s2, .slice x4 l4 c4, .slice y4 m4 d4, .bool bad2] 59)) (.agg #[.string o2, .float .f64 nn2, .string s2, .slice x4 l4 c4]) t2) := Lib.hid ((hnode2.sub (fun b h1 _ => (by have h3 : wr.heap.size ≤ b := h1; have h4 := HI1.out.blk.lt; have h5 := HI1.out.lt; omega : w.heap.size ≤ b ∧ b ≠ w.heap.size ∧ b ≠ g))).below ((Below.refl _ _).alloc (Nat.le_refl _) _))
        have HTL : Hid (∃ gh, gh < gk ∧ ∀ W8, (∀ b, b < B → W8.heap[b]? = w5.heap[b]?) → RTail B lv n res y4 m4 d4 bad2 (two op t t2) gh W8) := Lib.hid (by
          rcases hcase2 with ⟨h1, h2⟩ | ⟨h1, ts2, h2, h3, h4⟩
          · exact ⟨0, by have := HGK.out; omega, fun W8 _ => .inl ⟨h1, by rw [HRS.out, h2]⟩⟩
          · have hlen := (P_len valV true f (pm lv) r0 t2 ts2 h2).1
            have hf := HF.out
            rw [List.length_cons] at hf
            have hg := HGK.out
            rw [List.length_cons] at hg
            exact ⟨ts2.length + 1, by omega, fun W8 h8 => .inr ⟨h1, f, ts2, rfl, by rw [HRS.out, h2], by omega, by omega, by omega, h3.kept h8, h4⟩⟩)
        have HLT7 := Lib.hid (show g < w5.heap.size by have := HI1.out.blk.lt; have := hb5.size; omega)
        have HB5 := Lib.hid hb5
        clear hb5 hnode2 hcase2 HPART HRS HTOK HRES
        go_wp2_with fail
        have HW5 : Hid ((w5.alloc (.cells #[.string o2, .float .f64 nn2, .string s2, .slice x4 l4 c4, .slice y4 m4 d4, .bool bad2] 59)).heap.size = w5.heap.size + 1 ∧ Below w5.heap.size w5 (w5.alloc (.cells #[.string o2, .float .f64 nn2, .string s2, .slice x4 l4 c4, .slice y4 m4 d4, .bool bad2] 59))) := Lib.hid ⟨by simp, (Below.refl _ _).alloc (Nat.le_refl _) _⟩
        generalize (w5.alloc (.cells #[.string o2, .float .f64 nn2, .string s2, .slice x4 l4 c4, .slice y4 m4 d4, .bool bad2] 59)) = W7 at HI7 HG7 HND7 HW5 ⊢
        generalize hg7 : w5.heap.size = g7 at HG7 HLT7 ⊢
        have HG7E := Lib.hid hg7
        clear hg7
        have HS0 := Lib.hid (RB.cells (w := W7.drew) HG7.out)
        obtain ⟨q0, q1, q2, q3, q4, q5⟩ := HI7.out.blk.cells
        have HTWO : Hid (∀ W, Below W7.heap.size W7 W → Calls Tryz.prog 35 #[.string (tx op), .agg #[.string o, .float .f64 nn, .string s, .slice x3 l3 c3], .agg #[.string o2, .float .f64 nn2, .string s2, .slice x4 l4 c4]] W fun e w' => ∃ v, e = .returned v ∧ NodeV (fun b => w.heap.size ≤ b ∧ b ≠ w.heap.size ∧ b ≠ g) w' v (two op t t2) ∧ Below W.heap.size W w') := Lib.hid (fun W hW =>
          rtwo _ op _ _ t t2 W (fun b hb => (by have h1 := hW.size; have h2 := HI7.out.blk.lt; have h3 := HI7.out.lt; omega : w.heap.size ≤ b ∧ b ≠ w.heap.size ∧ b ≠ g)) (HI7.out.node.below hW) (HND7.out.below hW))
        have n1 : ¬ g = g7 := by have := HLT7.out; omega
        clear e0 e1 e2 e3 e4 e5 HLT
        refine wp_region_held (S := (fun w' => w'.cell? ⟨g7, 0, none⟩ = some (.string o2) ∧ w'.cell? ⟨g7, 1, none⟩ = some (.float .f64 nn2) ∧ w'.cell? ⟨g7, 2, none⟩ = some (.string s2) ∧ w'.cell? ⟨g7, 3, none⟩ = some (.slice x4 l4 c4) ∧ w'.cell? ⟨g7, 4, none⟩ = some (.slice y4 m4 d4) ∧ w'.cell? ⟨g7, 5, none⟩ = some (.bool bad2))) (by kernel_rfl) ?_
        change wpAnyH _ _ _ _ _ _ _ _ (World.drew _)
        refine wpAnyH_take (i := 0) (v := _) rfl (by kernel_rfl) (by kernel_rfl) (by kernel_rfl) (fun _ _ _ h => h) (Or.inl ⟨by rfl, by intro w hSw; (try dsimp only at hSw); go_simp; try (with_reducible rfl)⟩) HS0.out ?_
        try simp only [Act.put, List.setIfInBounds_toArray]
        refine wpAnyH_take (i := 1) (v := _) rfl (by kernel_rfl) (by kernel_rfl) (by kernel_rfl) (fun _ _ _ h => h) (Or.inl ⟨by rfl, by intro w hSw; (try dsimp only at hSw); go_simp; try (with_reducible rfl)⟩) HS0.out ?_
        try simp only [Act.put]
        refine wpAnyH_take (i := 3) (v := _) rfl (by kernel_rfl) (by kernel_rfl) (by kernel_rfl) (fun _ _ _ h => h) (Or.inl ⟨by rfl, by intro w hSw; (try dsimp only at hSw); go_simp; try (with_reducible rfl)⟩) HS0.out ?_
        try simp only [Act.put]
        refine wpAnyH_take (i := 4) (v := _) rfl (by kernel_rfl) (by kernel_rfl) (by kernel_rfl) (fun _ _ _ h => h) (Or.inl ⟨by rfl, by intro w hSw; (try dsimp only at hSw); go_simp; try (with_reducible rfl)⟩) HS0.out ?_
        try simp only [Act.put]
        refine wpAnyH_take (i := 6) (v := _) rfl (by kernel_rfl) (by kernel_rfl) (by kernel_rfl) (fun _ _ _ h => h) (Or.inl ⟨by rfl, by intro w hSw; (try dsimp only at hSw); go_simp; try (with_reducible rfl)⟩) HS0.out ?_
        try simp only [Act.put]
        refine wpAnyH_take (i := 7) (v := _) rfl (by kernel_rfl) (by kernel_rfl) (by kernel_rfl) (fun _ _ _ h => h) (Or.inl ⟨by rfl, by intro w hSw; (try dsimp only at hSw); go_simp; try (with_reducible rfl)⟩) HS0.out ?_
        try simp only [Act.put]
        refine wpAnyH_take (i := 8) (v := _) rfl (by kernel_rfl) (by kernel_rfl) (by kernel_rfl) (fun _ _ _ h => h) (Or.inl ⟨by rfl, by intro w hSw; (try dsimp only at hSw); go_simp; try (with_reducible rfl)⟩) HS0.out ?_
        try simp only [Act.put]
        refine wpAnyH_take (i := 9) (v := _) rfl (by kernel_rfl) (by kernel_rfl) (by kernel_rfl) (fun _ _ _ h => h) (Or.inl ⟨by rfl, by intro w hSw; (try dsimp only at hSw); go_simp; try (with_reducible rfl)⟩) HS0.out ?_
        try simp only [Act.put]
        refine wpAnyH_ready (rs := [2]) (by kernel_rfl) (by simp) ?_
        refine AllReadyH.cons rfl (fun K hK => ?_) AllReadyH.nil
        go_simp
        refine hK.out _ _ HS0.out (fun _ => ?_)
        clear hK K
        try simp only [Act.put, List.setIfInBounds_toArray, List.set_cons_zero, List.set_cons_succ]
        refine wpAnyH_ready (rs := [5]) (by kernel_rfl) (by simp) ?_
        refine AllReadyH.cons rfl (fun K hK => ?_) AllReadyH.nil
        go_simp
        go_wp2_with (first | (go_at_call 35; fail))
        refine (HTWO.out _ (Below.refl _ _).drew).mono ?_
        rintro e w6 ⟨v6, rfl, hv6, hb6⟩
        obtain ⟨o6, n6, s6, x6, l6, c6, rfl⟩ := hv6.agg
        have HV6 := Lib.hid hv6
        have HB6 : Hid (Below W7.heap.size W7 w6) := Lib.hid ((Below.refl _ _).drew.trans hb6)
        have HI6 := Lib.hid (HI7.out.below HB6.out)
        have HG6 := Lib.hid (HG7.out.below HB6.out)
        have HS6 := Lib.hid HG6.out.cells
        have HS8 := Lib.hid (RB.cells (w := putR w6 g (.string o6) (.float .f64 n6) (.string s6) (.slice x6 l6 c6) (.slice y4 m4 d4) (.bool bad2)) ((putR_other (fun h => n1 h.symm)).trans HG6.out))
        have fr := HI6.out.blk.fr
        have f0 := fr 0
        have f1 := fr 1
        have f2 := fr 2
        have f3 := fr 3
        have f4 := fr 4
        have f5 := fr 5
        clear q0 q1 q2 q3 q4 q5
        obtain ⟨q0, q1, q2, q3, q4, q5⟩ := HI6.out.blk.cells
        clear hv6 hb6 fr
        refine hK.out _ _ HS6.out (fun _ => ?_)
        clear hK K
        try simp only [Act.put, List.setIfInBounds_toArray, List.set_cons_zero, List.set_cons_succ]
        refine wpAnyH_take (i := 10) (v := _) rfl (by kernel_rfl) (by kernel_rfl) (by kernel_rfl) (fun _ _ _ h => h) (Or.inl ⟨by rfl, by intro w hSw; (try dsimp only at hSw); go_simp; try (with_reducible rfl)⟩) HS6.out ?_
        try simp only [Act.put, List.setIfInBounds_toArray]
        refine wpAnyH_ready (rs := [11]) (by kernel_rfl) (by simp) ?_
        refine AllReadyH.cons rfl (fun K hK => ?_) AllReadyH.nil
        go_simp
        refine hK.out _ _ HS8.out (fun _ => ?_)
        clear hK K
        try simp only [Act.put, List.setIfInBounds_toArray, List.set_cons_zero, List.set_cons_succ]
        refine wpAnyH_done (by kernel_rfl) ?_ _
        obtain ⟨gh2, hgh2, HTL2⟩ := HTL.out
        have HTL3 := Lib.hid HTL2
        clear HTL2
        go_wp2
        go_roundg gh2
        case measure => exact hgh2
        case rel =>
          refine ⟨o6, n6, s6, x6, l6, c6, y4, m4, d4, bad2, two op t t2, Lib.hid (HI6.out.put HV6.out), Lib.hid (HTL3.out _ (fun b hb => ?_))⟩
          have h1 := HI7.out.lt
          have h2 := HB.out
          have h3 := HI1.out.bel.size
          have h4 := HB5.out.size
          have h5 := HB6.out.block b (by have := HB6.out.size; have := HW5.out.1; omega)
          have h6 := HW5.out.2.block b (by omega)
          have h7 : (putR w6 g (.string o6) (.float .f64 n6) (.string s6) (.slice x6 l6 c6) (.slice y4 m4 d4) (.bool bad2)).heap[b]? = w6.heap[b]? := putR_other (by omega)
          exact h7.trans (h5.trans h6)
    · have HRN : Hid (res = none) := Lib.hid (by
        rcases HT1.out with ⟨_, h⟩ | ⟨h, _⟩
        · exact h
        · cases h)
      obtain ⟨z0, z1, z2, z3, z4, z5, hz⟩ := HI1.out.res
      obtain ⟨k0, k1, k2, k3, k4, k5⟩ := hz.cells
      have HZ := Lib.hid hz
      have f0 := hz.fr 0
      have f1 := hz.fr 1
      have f2 := hz.fr 2
      have f3 := hz.fr 3
      have f4 := hz.fr 4
      have f5 := hz.fr 5
      clear hz
      go_wp2
      rw [HRN.out]
      exact bodyPost_ret (read_node _ rfl _ _ w.heap.size _ _ _ _ _ _ rfl HZ.out.put) rfl (HI1.out.done HB.out (.inl ⟨rfl, rfl⟩))
end Go.Proofs.YtmhfnpabgkkjaaaGreat
/- Walks: the reference's value, bad, part. (printed by gen_qu.py) -/
namespace Go.Proofs.YtmhfnpabgkkjaaaGreat
open Go.RowKit Go.Shelf
open Ieee (double)
attribute [local go_sem] run_store_float
set_option maxRecDepth 100000 in
set_option maxHeartbeats 4000000 in
theorem rvalue (l : Bs) (h : NumT l) (w : World) : Calls Tryz.prog 95 #[.string (tx l)] w fun e w' => e = .returned (.float .f64 (valV l)) ∧ w = w' := by
  have HS := Lib.hid (tx_size' l)
  have HN := Lib.hid h
  have HL := Lib.hid h.2.2.2
  have HT := Lib.hid (fun i (hi : i < l.length) => tx_at l i hi)
  clear h
  go_enter Tryz.func95, Tryz.ntmps95
  go_wp2_with fail
  go_loop [3, 4, 5, 6] (fun n b p i => ∃ j : Nat, j ≤ l.length ∧ i = .int .i64 j ∧ Hid (n = .int .i64 ((valF (l.take j)).1 : Nat) ∧ b = .int .i64 ((10 ^ (valF (l.take j)).2.1 : Nat) : Int) ∧ p = .bool (valF (l.take j)).2.2)) (fun _ _ _ i => l.length - (intOf i).toNat)
  case atStart => exact ⟨0, Nat.zero_le _, rfl, Lib.hid ⟨rfl, rfl, rfl⟩⟩
  case round =>
    obtain ⟨j, hj, rfl, hh⟩ := hrel
    obtain ⟨rfl, rfl, rfl⟩ := hh.out
    have hb := numT_take HN.out j
    obtain ⟨N, hN⟩ : ∃ N, N = (valF (l.take j)).1 := ⟨_, rfl⟩
    obtain ⟨K, hK⟩ : ∃ K, K = (valF (l.take j)).2.1 := ⟨_, rfl⟩
    obtain ⟨B, hB⟩ : ∃ B, B = (valF (l.take j)).2.2 := ⟨_, rfl⟩
    rw [← hN, ← hK] at hb
    rw [← hN, ← hK, ← hB]
    have HV := Lib.hid (show valF (l.take j) = (N, K, B) by rw [hN, hK, hB])
    have jl : j ≤ 1000000 := by have := HL.out; omega
    have n1 : N < 1000000000000000 := by have := hb.1; omega
    have HK := Lib.hid hb.2
    obtain ⟨X, hX⟩ : ∃ X, X = 10 ^ K := ⟨_, rfl⟩
    have x1 : X ≤ 1000000 := by rw [hX]; exact Nat.pow_le_pow_right (n := 10) (by decide) hb.2
    have HX10 := Lib.hid (show 10 ^ (K + 1) = 10 * X by rw [hX, Nat.pow_succ, Nat.mul_comm])
    have HXF := Lib.hid (show ofI (X : Int) = pw K by rw [hX]; exact pw_ofI K hb.2)
    rw [← hX]
    have HXE := Lib.hid hX
    clear hh hb hN hK hB hX
    by_cases q1 : j < (tx l).size
    · have q1' : j < l.length := by have := HS.out; omega
      have HX := Lib.hid (HT.out j q1')
      have HTS := Lib.hid (take_snoc' l j q1')
      have HC := Lib.hid (HN.out.1 (l.getD j 0) (by rw [List.getD_eq_getElem?_getD, List.getElem?_eq_getElem q1']; exact List.getElem_mem _))
      by_cases q2 : l.getD j 0 = 46
      · have z : (((tx l)[j]'q1).toNat : Int) = 46 := toNat_of (HX.out.trans q2)
        have HV2 : Hid (valF (l.take (j + 1)) = (N, K, true)) := Lib.hid (by rw [HTS.out, valF_snoc, HV.out]; unfold valStep; rw [if_pos q2])
        clear q2
        go_wp2
        go_round
        case rel => exact ⟨j + 1, by omega, by go_num, Lib.hid (by rw [HV2.out]; exact ⟨rfl, by rw [HXE.out], rfl⟩)⟩
        case measure => simp [intOf]; omega
      · have z : ¬ (((tx l)[j]'q1).toNat : Int) = 46 := ne_nat (c := (tx l)[j]'q1) (v := 46) (by rw [HX.out]; exact q2)
        have hd : isDig (l.getD j 0) = true := by rcases HC.out with h | h; exact absurd h q2; exact h
        have hd2 : 48 ≤ (((tx l)[j]'q1).toNat : Int) ∧ (((tx l)[j]'q1).toNat : Int) ≤ 57 := by rw [HX.out]; rw [digit_dec] at hd; simpa using hd
        obtain ⟨y1, y2⟩ := hd2
        have HV2 : Hid (valF (l.take (j + 1)) = (10 * N + (((tx l)[j]'q1).toNat - 48), if B = true then K + 1 else K, B)) := Lib.hid (by rw [HTS.out, valF_snoc, HV.out, HX.out]; unfold valStep; rw [if_neg q2])
        clear q2 hd
        cases B
        · go_wp2
          go_round
          case rel => exact ⟨j + 1, by omega, by go_num, Lib.hid (by rw [HV2.out]; exact ⟨by go_num, by rw [if_neg (by decide), HXE.out], rfl⟩)⟩
          case measure => simp [intOf]; omega
        · go_wp2
          go_round
          case rel => exact ⟨j + 1, by omega, by go_num, Lib.hid (by rw [HV2.out]; exact ⟨by go_num, by rw [if_pos rfl, HX10.out]; go_num, rfl⟩)⟩
          case measure => simp [intOf]; omega
    · have e : j = l.length := by have := HS.out; omega
      have hV : ∀ W, (binOp BinOp.quo 23 (.float .f64 (floatOfInt .f64 (N : Int))) (.float .f64 (floatOfInt .f64 (X : Int)))).run Tryz.prog W = .ok (.float .f64 (valV l)) W := fun W => run_float_arith W .quo 23 .f64 _ _ _ (by
        have h1 := (valV_some HN.out).1
        have h2 := HV.out
        rw [e, List.take_length] at h2
        rw [h2] at h1
        have h3 : floatOfInt .f64 (X : Int) = pw K := HXF.out
        rw [h3]
        exact h1)
      clear e
      go_wp2
      go_ret
      exact ⟨rfl, rfl⟩
/-- A call's answer, handed on. -/
theorem rwrap {B : Nat} {res : Option (Tree × List Tok)} {w w2 : World} {v : Value} (hB : B ≤ w.heap.size)
    (hb : Below (w.alloc (.cells #[.string ⟨#[]⟩, .float .f64 0, .string ⟨#[]⟩, .slice none 0 0, .slice none 0 0, .bool false] 59)).heap.size (w.alloc (.cells #[.string ⟨#[]⟩, .float .f64 0, .string ⟨#[]⟩, .slice none 0 0, .slice none 0 0, .bool false] 59)) w2)
    (hv : RVal (fun b => (w.alloc (.cells #[.string ⟨#[]⟩, .float .f64 0, .string ⟨#[]⟩, .slice none 0 0, .slice none 0 0, .bool false] 59)).heap.size ≤ b) B w2 v res) :
    RB w2 w.heap.size (.string ⟨#[]⟩) (.float .f64 0) (.string ⟨#[]⟩) (.slice none 0 0) (.slice none 0 0) (.bool false) ∧
    ∃ o n s x l c y m d bad, v = .agg #[.string o, .float .f64 n, .string s, .slice x l c, .slice y m d, .bool bad] ∧
      REnd B res w (.returned (.agg #[.string o, .float .f64 n, .string s, .slice x l c, .slice y m d, .bool bad])) (putR w2 w.heap.size (.string o) (.float .f64 n) (.string s) (.slice x l c) (.slice y m d) (.bool bad)) := by
  have hz : (w.alloc (.cells #[.string ⟨#[]⟩, .float .f64 0, .string ⟨#[]⟩, .slice none 0 0, .slice none 0 0, .bool false] 59)).heap.size = w.heap.size + 1 := by simp
  have hr0 : RB (w.alloc (.cells #[.string ⟨#[]⟩, .float .f64 0, .string ⟨#[]⟩, .slice none 0 0, .slice none 0 0, .bool false] 59)) w.heap.size _ _ _ _ _ _ := heap_alloc_new _ _
  refine ⟨hr0.below hb, ?_⟩
  obtain ⟨o, n, s, x, l, c, y, m, d, bad, t, rfl, hn, hc⟩ := hv
  rw [hz] at hb hn
  refine ⟨o, n, s, x, l, c, y, m, d, bad, rfl, below_putR ((bel1 w _).trans (below_le hb (by omega))) (Nat.le_refl _), _, rfl, o, n, s, x, l, c, y, m, d, bad, t, rfl, ?_, ?_⟩
  · exact (hn.putR (fun hh => by have h3 : w.heap.size + 1 ≤ w.heap.size := hh; omega)).sub (fun b h1 _ => by have h3 : w.heap.size + 1 ≤ b := h1; show w.heap.size ≤ b; omega)
  · rcases hc with h1 | ⟨h1, ts, h2, h3, h4⟩
    · exact .inl h1
    · exact .inr ⟨h1, ts, h2, h3.putR hB, h4⟩
/-- A reader without a level. -/
def RT (B : Nat) (F : Nat) (m : Mode) (lvl n : Nat) : Prop :=
  ∀ ts v w, 12 * ts.length + lvl ≤ n → ts.length ≤ 1000000 → B ≤ w.heap.size → KOk ts → TokV B w v ts → Calls Tryz.prog F #[v] w (REnd B (P valV true n m ts) w)
set_option maxRecDepth 100000 in
set_option maxHeartbeats 2000000 in
theorem rpart_0 (B k : Nat) (H : RC B 22 1 .and 9 k) : RC B 33 0 (pm 0) (lvlP 0) k := by
  intro ts v w hn hl hB hK hv
  have HB := Lib.hid hB
  have HC := Lib.hid (fun W (hb : B ≤ W.heap.size) ht => H ts v W hn hl hb hK ht)
  have HT := Lib.hid hv
  obtain ⟨x, tn, tc, rfl⟩ := hv.agg
  generalize hres : P valV true k .and ts = res at HC
  have HR := Lib.hid (show P valV true k (pm 0) ts = res from hres)
  rw [HR.out]
  clear hn hl hB hK hv H hres HR
  show Calls Tryz.prog 33 #[.slice x tn tc, .int .i64 0] w _
  go_enter Tryz.func33, Tryz.ntmps33
  go_wp2_with (first | (go_at_call 22; fail))
  go_at_call 22
  refine (HC.out _ (by have := HB.out; simp; omega) (HT.out.below ((Below.refl _ _).alloc (Nat.le_refl _) _) HB.out)).mono ?_
  rintro e w2 ⟨hb2, v2, rfl, hv2⟩
  obtain ⟨hz, o, n, s, x2, l, c, y, m, d, bad, rfl, hend⟩ := rwrap HB.out hb2 hv2
  have HE := Lib.hid hend
  obtain ⟨k0, k1, k2, k3, k4, k5⟩ := hz.cells
  have HZ := Lib.hid hz
  have f0 := hz.fr 0
  have f1 := hz.fr 1
  have f2 := hz.fr 2
  have f3 := hz.fr 3
  have f4 := hz.fr 4
  have f5 := hz.fr 5
  clear hz hend hb2 hv2 HC HT
  go_wp2
  exact bodyPost_ret (read_node _ rfl _ _ w.heap.size _ _ _ _ _ _ rfl HZ.out.put) rfl HE.out
set_option maxRecDepth 100000 in
set_option maxHeartbeats 2000000 in
theorem rpart_1 (B k : Nat) (H : RT B 60 .not 7 k) : RC B 33 1 (pm 1) (lvlP 1) k := by
  intro ts v w hn hl hB hK hv
  have HB := Lib.hid hB
  have HC := Lib.hid (fun W (hb : B ≤ W.heap.size) ht => H ts v W hn hl hb hK ht)
  have HT := Lib.hid hv
  obtain ⟨x, tn, tc, rfl⟩ := hv.agg
  generalize hres : P valV true k .not ts = res at HC
  have HR := Lib.hid (show P valV true k (pm 1) ts = res from hres)
  rw [HR.out]
  clear hn hl hB hK hv H hres HR
  show Calls Tryz.prog 33 #[.slice x tn tc, .int .i64 1] w _
  go_enter Tryz.func33, Tryz.ntmps33
  go_wp2_with (first | (go_at_call 60; fail))
  go_at_call 60
  refine (HC.out _ (by have := HB.out; simp; omega) (HT.out.below ((Below.refl _ _).alloc (Nat.le_refl _) _) HB.out)).mono ?_
  rintro e w2 ⟨hb2, v2, rfl, hv2⟩
  obtain ⟨hz, o, n, s, x2, l, c, y, m, d, bad, rfl, hend⟩ := rwrap HB.out hb2 hv2
  have HE := Lib.hid hend
  obtain ⟨k0, k1, k2, k3, k4, k5⟩ := hz.cells
  have HZ := Lib.hid hz
  have f0 := hz.fr 0
  have f1 := hz.fr 1
  have f2 := hz.fr 2
  have f3 := hz.fr 3
  have f4 := hz.fr 4
  have f5 := hz.fr 5
  clear hz hend hb2 hv2 HC HT
  go_wp2
  exact bodyPost_ret (read_node _ rfl _ _ w.heap.size _ _ _ _ _ _ rfl HZ.out.put) rfl HE.out
set_option maxRecDepth 100000 in
set_option maxHeartbeats 2000000 in
theorem rpart_2 (B k : Nat) (H : RC B 22 3 .prod 4 k) : RC B 33 2 (pm 2) (lvlP 2) k := by
  intro ts v w hn hl hB hK hv
  have HB := Lib.hid hB
  have HC := Lib.hid (fun W (hb : B ≤ W.heap.size) ht => H ts v W hn hl hb hK ht)
  have HT := Lib.hid hv
  obtain ⟨x, tn, tc, rfl⟩ := hv.agg
  generalize hres : P valV true k .prod ts = res at HC
  have HR := Lib.hid (show P valV true k (pm 2) ts = res from hres)
  rw [HR.out]
  clear hn hl hB hK hv H hres HR
  show Calls Tryz.prog 33 #[.slice x tn tc, .int .i64 2] w _
  go_enter Tryz.func33, Tryz.ntmps33
  go_wp2_with (first | (go_at_call 22; fail))
  go_at_call 22
  refine (HC.out _ (by have := HB.out; simp; omega) (HT.out.below ((Below.refl _ _).alloc (Nat.le_refl _) _) HB.out)).mono ?_
  rintro e w2 ⟨hb2, v2, rfl, hv2⟩
  obtain ⟨hz, o, n, s, x2, l, c, y, m, d, bad, rfl, hend⟩ := rwrap HB.out hb2 hv2
  have HE := Lib.hid hend
  obtain ⟨k0, k1, k2, k3, k4, k5⟩ := hz.cells
  have HZ := Lib.hid hz
  have f0 := hz.fr 0
  have f1 := hz.fr 1
  have f2 := hz.fr 2
  have f3 := hz.fr 3
  have f4 := hz.fr 4
  have f5 := hz.fr 5
  clear hz hend hb2 hv2 HC HT
  go_wp2
  exact bodyPost_ret (read_node _ rfl _ _ w.heap.size _ _ _ _ _ _ rfl HZ.out.put) rfl HE.out
set_option maxRecDepth 100000 in
set_option maxHeartbeats 2000000 in
theorem rpart_3 (B k : Nat) (H : RT B 61 .signed 2 k) : RC B 33 3 (pm 3) (lvlP 3) k := by
  intro ts v w hn hl hB hK hv
  have HB := Lib.hid hB
  have HC := Lib.hid (fun W (hb : B ≤ W.heap.size) ht => H ts v W hn hl hb hK ht)
  have HT := Lib.hid hv
  obtain ⟨x, tn, tc, rfl⟩ := hv.agg
  generalize hres : P valV true k .signed ts = res at HC
  have HR := Lib.hid (show P valV true k (pm 3) ts = res from hres)
  rw [HR.out]
  clear hn hl hB hK hv H hres HR
  show Calls Tryz.prog 33 #[.slice x tn tc, .int .i64 3] w _
  go_enter Tryz.func33, Tryz.ntmps33
  go_wp2_with (first | (go_at_call 61; fail))
  go_at_call 61
  refine (HC.out _ (by have := HB.out; simp; omega) (HT.out.below ((Below.refl _ _).alloc (Nat.le_refl _) _) HB.out)).mono ?_
  rintro e w2 ⟨hb2, v2, rfl, hv2⟩
  obtain ⟨hz, o, n, s, x2, l, c, y, m, d, bad, rfl, hend⟩ := rwrap HB.out hb2 hv2
  have HE := Lib.hid hend
  obtain ⟨k0, k1, k2, k3, k4, k5⟩ := hz.cells
  have HZ := Lib.hid hz
  have f0 := hz.fr 0
  have f1 := hz.fr 1
  have f2 := hz.fr 2
  have f3 := hz.fr 3
  have f4 := hz.fr 4
  have f5 := hz.fr 5
  clear hz hend hb2 hv2 HC HT
  go_wp2
  exact bodyPost_ret (read_node _ rfl _ _ w.heap.size _ _ _ _ _ _ rfl HZ.out.put) rfl HE.out
theorem rpart (B k : Nat) (H0 : RC B 22 1 .and 9 k) (H1 : RT B 60 .not 7 k) (H2 : RC B 22 3 .prod 4 k) (H3 : RT B 61 .signed 2 k) (lv : Nat) (h : lv < 4) : RC B 33 lv (pm lv) (lvlP lv) k := by
  match lv, h with
  | 0, _ => exact rpart_0 B k H0
  | 1, _ => exact rpart_1 B k H1
  | 2, _ => exact rpart_2 B k H2
  | 3, _ => exact rpart_3 B k H3
end Go.Proofs.YtmhfnpabgkkjaaaGreat
