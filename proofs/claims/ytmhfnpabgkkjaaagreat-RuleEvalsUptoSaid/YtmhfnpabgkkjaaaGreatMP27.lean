/- Own texts, merged: QV, QW, QX, QY, QZ, RA, RB, RC. -/
import Derived.Test.YtmhfnpabgkkjaaaGreatMP26
/- Walks: the reference's bad, signed. -/
namespace Go.Proofs.YtmhfnpabgkkjaaaGreat
open Go.RowKit Go.Shelf
attribute [local go_sem] run_store_float
set_option maxRecDepth 100000 in
set_option maxHeartbeats 2000000 in
theorem rbad (B : Nat) (w : World) : Calls Tryz.prog 94 #[] w (REnd B none w) := by
  have HZ : Hid (RB (w.alloc (.cells #[.string ⟨#[]⟩, .float .f64 0, .string ⟨#[]⟩, .slice none 0 0, .slice none 0 0, .bool true] 59)) w.heap.size (.string ⟨#[]⟩) (.float .f64 0) (.string ⟨#[]⟩) (.slice none 0 0) (.slice none 0 0) (.bool true)) := Lib.hid (heap_alloc_new _ _)
  have HE : Hid (REnd B none w (.returned (.agg #[.string ⟨#[]⟩, .float .f64 0, .string ⟨#[]⟩, .slice none 0 0, .slice none 0 0, .bool true])) (w.alloc (.cells #[.string ⟨#[]⟩, .float .f64 0, .string ⟨#[]⟩, .slice none 0 0, .slice none 0 0, .bool true] 59))) :=
    Lib.hid ⟨bel1 w _, _, rfl, _, _, _, _, _, _, _, _, _, true, _, rfl, NodeV.zero _ _, .inl ⟨rfl, rfl⟩⟩
  go_enter Tryz.func94, Tryz.ntmps94
  go_wp2
  exact bodyPost_ret (read_node _ rfl _ _ w.heap.size _ _ _ _ _ _ rfl HZ.out) rfl HE.out
/-- A part under an Op. -/
def under (op : Bs) (res : Option (Tree × List Tok)) : Option (Tree × List Tok) := match res with | none => none | some (b, r') => some (one op b, r')
theorem P_signed_yes (n : Nat) (t : Tok) (r : List Tok) (h : isTok (t :: r) 4 [45] = true) : P valV true (n + 1) .signed (t :: r) = under wneg (P valV true n .signed r) := by
  simp only [P]
  rw [if_pos h, adv_true]
  rfl
theorem P_signed_no (n : Nat) (ts : List Tok) (h : isTok ts 4 [45] = false) : P valV true (n + 1) .signed ts = P valV true n .atom ts := by
  simp only [P]
  rw [h]
  rfl
/-- One part under an Op, read: what is stored. -/
theorem rone {B : Nat} {res : Option (Tree × List Tok)} {w w2 : World} {op : Bs} {o : ByteArray} {n : Nat} {s : ByteArray} {x : Option Addr} {l c : Nat} {y : Option Addr} {m d : Nat} {bad : Bool} {t : Tree} (hB : B ≤ w.heap.size) (hb : Below w.heap.size w w2) (hlt : w.heap.size < w2.heap.size)
    (hn : NodeV (fun b => w.heap.size + 1 ≤ b) w2 (.agg #[.string o, .float .f64 n, .string s, .slice x l c]) t)
    (hc : (bad = true ∧ res = none) ∨ (bad = false ∧ ∃ ts, res = some (t, ts) ∧ TokV B w2 (.slice y m d) ts ∧ KOk ts)) (c0 : Obj) :
    REnd B (under op res) w (.returned (.agg #[.string (tx op), .float .f64 0, .string ⟨#[]⟩, .slice (some ⟨w2.heap.size + 1, 0, none⟩) 1 1, .slice y m d, .bool bad]))
      (((putR w2 w.heap.size (.string (tx op)) (.float .f64 0) (.string ⟨#[]⟩) (.slice (some ⟨w2.heap.size + 1, 0, none⟩) 1 1) (.slice y m d) (.bool bad)).alloc c0).alloc (.cells #[.string o, .float .f64 n, .string s, .slice x l c] 26)) := by
  have hz3 : (putR w2 w.heap.size (.string (tx op)) (.float .f64 0) (.string ⟨#[]⟩) (.slice (some ⟨w2.heap.size + 1, 0, none⟩) 1 1) (.slice y m d) (.bool bad)).heap.size = w2.heap.size := putR_size
  have hb3 := below_putR (v0 := .string (tx op)) (v1 := .float .f64 0) (v2 := .string ⟨#[]⟩) (v3 := .slice (some ⟨w2.heap.size + 1, 0, none⟩) 1 1) (v4 := .slice y m d) (v5 := .bool bad) hb (Nat.le_refl w.heap.size)
  have hn3 : NodeV (fun b => w.heap.size + 1 ≤ b) (putR w2 w.heap.size (.string (tx op)) (.float .f64 0) (.string ⟨#[]⟩) (.slice (some ⟨w2.heap.size + 1, 0, none⟩) 1 1) (.slice y m d) (.bool bad)) _ t := hn.putR (fun hh => by have h3 : w.heap.size + 1 ≤ w.heap.size := hh; omega)
  have hc3 : (bad = true ∧ res = none) ∨ (bad = false ∧ ∃ ts, res = some (t, ts) ∧ TokV B (putR w2 w.heap.size (.string (tx op)) (.float .f64 0) (.string ⟨#[]⟩) (.slice (some ⟨w2.heap.size + 1, 0, none⟩) 1 1) (.slice y m d) (.bool bad)) (.slice y m d) ts ∧ KOk ts) := by
    rcases hc with h1 | ⟨h1, ts, h3, h4, h5⟩
    · exact .inl h1
    · exact .inr ⟨h1, ts, h3, h4.putR hB, h5⟩
  generalize putR w2 w.heap.size (.string (tx op)) (.float .f64 0) (.string ⟨#[]⟩) (.slice (some ⟨w2.heap.size + 1, 0, none⟩) 1 1) (.slice y m d) (.bool bad) = W3 at hz3 hb3 hn3 hc3 ⊢
  rw [← hz3] at hlt ⊢
  have h2 : Below W3.heap.size W3 ((W3.alloc c0).alloc (.cells #[.string o, .float .f64 n, .string s, .slice x l c] 26)) := ((Below.refl _ _).alloc (Nat.le_refl _) _).alloc (by simp) _
  have hnew : ((W3.alloc c0).alloc (.cells #[.string o, .float .f64 n, .string s, .slice x l c] 26)).heap[W3.heap.size + 1]? = some (.cells #[.string o, .float .f64 n, .string s, .slice x l c] 26 (0, 0)) := by simpa using heap_alloc_new (W3.alloc c0) _
  have hnode : NodeV (fun b => w.heap.size + 1 ≤ b) ((W3.alloc c0).alloc (.cells #[.string o, .float .f64 n, .string s, .slice x l c] 26)) (.agg #[.string (tx op), .float .f64 0, .string ⟨#[]⟩, .slice (some ⟨W3.heap.size + 1, 0, none⟩) 1 1]) (one op t) :=
    node_one (g := W3.heap.size + 1) (by show w.heap.size + 1 ≤ W3.heap.size + 1; omega) hnew (hn3.below h2)
  refine ⟨hb3.trans (below_le h2 (by omega)), _, rfl, _, _, _, _, _, _, _, _, _, _, _, rfl, hnode.sub (fun b h1 _ => by have h3 : w.heap.size + 1 ≤ b := h1; show w.heap.size ≤ b; omega), ?_⟩
  rcases hc3 with ⟨h1, h3⟩ | ⟨h1, ts, h3, h4, h5⟩
  · exact .inl ⟨h1, by rw [h3]; rfl⟩
  · exact .inr ⟨h1, ts, by rw [h3]; rfl, h4.below h2 (by omega), h5⟩
set_option maxRecDepth 100000 in
set_option maxHeartbeats 4000000 in
theorem rsigned_step (B n : Nat) (H : RT B 61 .signed 2 n) (HA : RT B 81 .atom 1 n) : RT B 61 .signed 2 (n + 1) := by
  intro ts v w hn hl hB hK hv
  have HB := Lib.hid hB
  have HT := Lib.hid hv
  have HIS := Lib.hid (fun W (h : TokV B W v ts) => ris B v ts 4 (.inr rfl) [45] hK hl W h)
  cases hq : isTok ts 4 [45]
  · have HC := Lib.hid (fun W (hb : B ≤ W.heap.size) ht => HA ts v W (by omega) hl hb hK ht)
    rw [P_signed_no n ts hq]
    rw [hq] at HIS
    obtain ⟨x, tn, tc, rfl⟩ := hv.agg
    generalize P valV true n .atom ts = res at HC ⊢
    clear hn hl hB hK hv H HA hq
    go_enter Tryz.func61, Tryz.ntmps61
    go_wp2_with (first | (go_at_call 62; refine (HIS.out _ (HT.out.below ((Below.refl _ _).alloc (Nat.le_refl _) _) HB.out)).mono ?_; rintro e w5 ⟨rfl, rfl⟩) | (go_at_call 81; fail))
    go_at_call 81
    refine (HC.out _ (by have := HB.out; simp; omega) (HT.out.below ((Below.refl _ _).alloc (Nat.le_refl _) _) HB.out)).mono ?_
    rintro e w2 ⟨hb2, v2, rfl, hv2⟩
    obtain ⟨hz, o, n, s, x2, l, c, y, m, d, bad, rfl, hend⟩ := rwrap HB.out hb2 hv2
    have HE := Lib.hid hend
    obtain ⟨k0, k1, k2, k3, k4, k5⟩ := hz.cells
    have HZ := Lib.hid hz
    have f0 := hz.fr 0
    have f1 := hz.fr 1
    have f2 := hz.fr 2
    have f3 := hz.fr 3
    have f4 := hz.fr 4
    have f5 := hz.fr 5
    clear hz hend hb2 hv2 HC HT HIS
    go_wp2
    exact bodyPost_ret (read_node _ rfl _ _ w.heap.size _ _ _ _ _ _ rfl HZ.out.put) rfl HE.out
  · obtain ⟨t, r, rfl⟩ : ∃ t r, ts = t :: r := by
      cases ts with
      | nil => cases hq
      | cons t r => exact ⟨t, r, rfl⟩
    have HC := Lib.hid (fun W v1 (hb : B ≤ W.heap.size) ht => H r v1 W (by rw [List.length_cons] at hn; omega) (by rw [List.length_cons] at hl; omega) hb hK.tail ht)
    rw [P_signed_yes n t r hq]
    rw [hq] at HIS
    obtain ⟨x, tn, tc, rfl⟩ := hv.agg
    obtain ⟨y2, m2, d2, hsl, _⟩ := tok_slice hv
    have HSL : Hid (∀ W, Below w.heap.size w W → TokV B W (.slice y2 m2 d2) r) := Lib.hid (fun W hW => by
      obtain ⟨y3, m3, d3, h1, h2⟩ := tok_slice (hv.below hW hB)
      have h3 := (hsl W).symm.trans (h1 W)
      cases h3
      exact h2)
    generalize P valV true n .signed r = res at HC ⊢
    clear hn hl hB hK hv H HA hq
    go_enter Tryz.func61, Tryz.ntmps61
    go_wp2_with (first | (go_at_call 62; refine (HIS.out _ (HT.out.below ((Below.refl _ _).alloc (Nat.le_refl _) _) HB.out)).mono ?_; rintro e w5 ⟨rfl, rfl⟩) | (go_at_call 61; fail))
    go_at_call 61
    refine (HC.out _ _ (by have := HB.out; simp; omega) (HSL.out _ ((Below.refl _ _).alloc (Nat.le_refl _) _))).mono ?_
    rintro e w2 ⟨hb2, v2, rfl, o, nn, s, x2, l, c, y, m, d, bad, t2, rfl, hnode, hcase⟩
    have hsz : (w.alloc (.cells #[.string ⟨#[]⟩, .float .f64 0, .string ⟨#[]⟩, .slice none 0 0, .slice none 0 0, .bool false] 59)).heap.size = w.heap.size + 1 := by simp
    have hr0 : RB (w.alloc (.cells #[.string ⟨#[]⟩, .float .f64 0, .string ⟨#[]⟩, .slice none 0 0, .slice none 0 0, .bool false] 59)) w.heap.size _ _ _ _ _ _ := heap_alloc_new _ _
    have hz := hr0.below hb2
    rw [hsz] at hb2 hnode
    have hlt : w.heap.size < w2.heap.size := by have := hb2.size; omega
    have HE := Lib.hid (fun c0 => rone (op := wneg) HB.out ((bel1 w _).trans (below_le hb2 (by omega))) hlt hnode hcase c0)
    have HZ := Lib.hid (fun v0 v1 v2 v3 v4 v5 c0 c1 => (hz.put (v0 := v0) (v1 := v1) (v2 := v2) (v3 := v3) (v4 := v4) (v5 := v5)).below (((Below.refl _ (putR w2 w.heap.size v0 v1 v2 v3 v4 v5)).alloc (Nat.le_refl _) c0).alloc (by simp) c1))
    obtain ⟨k0, k1, k2, k3, k4, k5⟩ := hz.cells
    have f0 := hz.fr 0
    have f1 := hz.fr 1
    have f2 := hz.fr 2
    have f3 := hz.fr 3
    have f4 := hz.fr 4
    have f5 := hz.fr 5
    clear hz hr0 hsz hb2 hnode hcase HC HT HIS HSL hsl
    go_wp2
    exact bodyPost_ret (read_node _ rfl _ _ w.heap.size _ _ _ _ _ _ rfl (HZ.out _ _ _ _ _ _ _ _)) rfl (HE.out _)
end Go.Proofs.YtmhfnpabgkkjaaaGreat
/- Walks: the reference's truth: not. -/
namespace Go.Proofs.YtmhfnpabgkkjaaaGreat
open Go.RowKit Go.Shelf
attribute [local go_sem] run_store_float
theorem P_not_yes (n : Nat) (t : Tok) (r : List Tok) (h : isTok (t :: r) 2 wnot = true) : P valV true (n + 1) .not (t :: r) = under wnot (P valV true n .not r) := by
  simp only [P]
  rw [if_pos h, adv_true]
  rfl
/-- Behind a sum: a comparison with another one, or none. -/
def cmpR (n : Nat) : Option (Tree × List Tok) → Option (Tree × List Tok)
  | none => none
  | some (a, []) => some (a, [])
  | some (a, t :: r1) => if t.k = 4 ∧ isCmp t.s = true then (match P valV true n .sum r1 with | none => none | some (b, r') => some (two t.s a b, r')) else some (a, t :: r1)
theorem P_not_no (n : Nat) (ts : List Tok) (h : isTok ts 2 wnot = false) : P valV true (n + 1) .not ts = cmpR n (P valV true n .sum ts) := by
  simp only [P]
  rw [if_neg (by rw [h]; decide)]
  rcases P valV true n .sum ts with _ | ⟨a, _ | ⟨t, r1⟩⟩
  · rfl
  · rfl
  · simp only [cmpR, adv_true]
    rfl
set_option maxRecDepth 100000 in
set_option maxHeartbeats 4000000 in
theorem rtruth_not (B n : Nat) (H : RT B 60 .not 7 n) (t : Tok) (r : List Tok) (hq : isTok (t :: r) 2 wnot = true) (v : Value) (w : World) (hn : 12 * (t :: r).length + 7 ≤ n + 1) (hl : (t :: r).length ≤ 1000000) (hB : B ≤ w.heap.size) (hK : KOk (t :: r)) (hv : TokV B w v (t :: r)) :
    Calls Tryz.prog 60 #[v] w (REnd B (P valV true (n + 1) .not (t :: r)) w) := by
  have HB := Lib.hid hB
  have HT := Lib.hid hv
  have HIS := Lib.hid (fun W (h : TokV B W v (t :: r)) => ris B v (t :: r) 2 (.inl rfl) wnot hK hl W h)
  have HC := Lib.hid (fun W v1 (hb : B ≤ W.heap.size) ht => H r v1 W (by rw [List.length_cons] at hn; omega) (by rw [List.length_cons] at hl; omega) hb hK.tail ht)
  rw [P_not_yes n t r hq]
  rw [hq] at HIS
  obtain ⟨x, tn, tc, rfl⟩ := hv.agg
  obtain ⟨y2, m2, d2, hsl, _⟩ := tok_slice hv
  have HSL : Hid (∀ W, Below w.heap.size w W → TokV B W (.slice y2 m2 d2) r) := Lib.hid (fun W hW => by
    obtain ⟨y3, m3, d3, h1, h2⟩ := tok_slice (hv.below hW hB)
    have h3 := (hsl W).symm.trans (h1 W)
    cases h3
    exact h2)
  generalize P valV true n .not r = res at HC ⊢
  clear hn hl hB hK hv H hq
  go_enter Tryz.func60, Tryz.ntmps60
  go_wp2_with (first | (go_at_call 62; refine (HIS.out _ (HT.out.below ((Below.refl _ _).alloc (Nat.le_refl _) _) HB.out)).mono ?_; rintro e w5 ⟨rfl, rfl⟩) | (go_at_call 60; fail))
  go_at_call 60
  refine (HC.out _ _ (by have := HB.out; simp; omega) (HSL.out _ ((Below.refl _ _).alloc (Nat.le_refl _) _))).mono ?_
  rintro e w2 ⟨hb2, v2, rfl, o, nn, s, x2, l, c, y, m, d, bad, t2, rfl, hnode, hcase⟩
  have hsz : (w.alloc (.cells #[.string ⟨#[]⟩, .float .f64 0, .string ⟨#[]⟩, .slice none 0 0, .slice none 0 0, .bool false] 59)).heap.size = w.heap.size + 1 := by simp
  have hr0 : RB (w.alloc (.cells #[.string ⟨#[]⟩, .float .f64 0, .string ⟨#[]⟩, .slice none 0 0, .slice none 0 0, .bool false] 59)) w.heap.size _ _ _ _ _ _ := heap_alloc_new _ _
  have hz := hr0.below hb2
  rw [hsz] at hb2 hnode
  have hlt : w.heap.size < w2.heap.size := by have := hb2.size; omega
  have HE := Lib.hid (fun c0 => rone (op := wnot) HB.out ((bel1 w _).trans (below_le hb2 (by omega))) hlt hnode hcase c0)
  have HZ := Lib.hid (fun v0 v1 v2 v3 v4 v5 c0 c1 => (hz.put (v0 := v0) (v1 := v1) (v2 := v2) (v3 := v3) (v4 := v4) (v5 := v5)).below (((Below.refl _ (putR w2 w.heap.size v0 v1 v2 v3 v4 v5)).alloc (Nat.le_refl _) c0).alloc (by simp) c1))
  obtain ⟨k0, k1, k2, k3, k4, k5⟩ := hz.cells
  have f0 := hz.fr 0
  have f1 := hz.fr 1
  have f2 := hz.fr 2
  have f3 := hz.fr 3
  have f4 := hz.fr 4
  have f5 := hz.fr 5
  clear hz hr0 hsz hb2 hnode hcase HC HT HIS HSL hsl
  go_wp2
  exact bodyPost_ret (read_node _ rfl _ _ w.heap.size _ _ _ _ _ _ rfl (HZ.out _ _ _ _ _ _ _ _)) rfl (HE.out _)
end Go.Proofs.YtmhfnpabgkkjaaaGreat
/- Walks: the reference's truth: a sum alone. -/
namespace Go.Proofs.YtmhfnpabgkkjaaaGreat
open Go.RowKit Go.Shelf
attribute [local go_sem] run_store_float
theorem REnd.alloc {B : Nat} {res : Option (Tree × List Tok)} {w W : World} {e : Ending} (h : REnd B res w e W) (hB : B ≤ w.heap.size) (c : Obj) : REnd B res w e (W.alloc c) := by
  obtain ⟨hb, v, he, o, n, s, x, l, c', y, m, d, bad, t, hv, hn, hc⟩ := h
  have h2 : Below W.heap.size W (W.alloc c) := (Below.refl _ _).alloc (Nat.le_refl _) _
  refine ⟨hb.trans (below_le h2 hb.size), v, he, o, n, s, x, l, c', y, m, d, bad, t, hv, hn.below h2, ?_⟩
  rcases hc with h1 | ⟨h1, ts, h3, h4, h5⟩
  · exact .inl h1
  · exact .inr ⟨h1, ts, h3, h4.below h2 (by have := hb.size; omega), h5⟩
set_option maxRecDepth 100000 in
set_option maxHeartbeats 4000000 in
theorem rtruth_bad (B n : Nat) (H : RC B 22 2 .sum 6 n) (ts : List Tok) (hq : isTok ts 2 wnot = false) (hx : P valV true n .sum ts = none) (v : Value) (w : World) (hn : 12 * ts.length + 7 ≤ n + 1) (hl : ts.length ≤ 1000000) (hB : B ≤ w.heap.size) (hK : KOk ts) (hv : TokV B w v ts) :
    Calls Tryz.prog 60 #[v] w (REnd B (P valV true (n + 1) .not ts) w) := by
  have HB := Lib.hid hB
  have HT := Lib.hid hv
  have HIS := Lib.hid (fun W (h : TokV B W v ts) => ris B v ts 2 (.inl rfl) wnot hK hl W h)
  have HC := Lib.hid (fun W (hb : B ≤ W.heap.size) ht => H ts v W (by omega) hl hb hK ht)
  rw [P_not_no n ts hq, hx]
  rw [hx] at HC
  rw [hq] at HIS
  obtain ⟨x, tn, tc, rfl⟩ := hv.agg
  show Calls _ _ _ _ (REnd B none w)
  clear hn hl hB hK hv H hq hx
  go_enter Tryz.func60, Tryz.ntmps60
  go_wp2_with (first | (go_at_call 62; refine (HIS.out _ (HT.out.below ((Below.refl _ _).alloc (Nat.le_refl _) _) HB.out)).mono ?_; rintro e w5 ⟨rfl, rfl⟩) | (go_at_call 22; fail))
  go_at_call 22
  refine (HC.out _ (by have := HB.out; simp; omega) (HT.out.below ((Below.refl _ _).alloc (Nat.le_refl _) _) HB.out)).mono ?_
  rintro e w2 ⟨hb2, v2, rfl, hv2⟩
  obtain ⟨hz, o, n, s, x2, l, c, y, m, d, bad, rfl, hend⟩ := rwrap HB.out hb2 hv2
  have HE := Lib.hid (fun c0 => hend.alloc HB.out c0)
  have hbad : bad = true := by
    obtain ⟨_, v, hv, _, _, _, _, _, _, _, _, _, bad2, _, h2, _, ⟨h3, _⟩ | ⟨_, ts, h3, _⟩⟩ := hend
    · cases hv; cases h2; exact h3
    · cases h3
  subst hbad
  have hlt := hz.lt
  have HZ := Lib.hid (fun v0 v1 v2 v3 v4 v5 c0 => (hz.put (v0 := v0) (v1 := v1) (v2 := v2) (v3 := v3) (v4 := v4) (v5 := v5)).below ((Below.refl _ (putR w2 w.heap.size v0 v1 v2 v3 v4 v5)).alloc (Nat.le_refl _) c0))
  obtain ⟨k0, k1, k2, k3, k4, k5⟩ := hz.cells
  have f0 := hz.fr 0
  have f1 := hz.fr 1
  have f2 := hz.fr 2
  have f3 := hz.fr 3
  have f4 := hz.fr 4
  have f5 := hz.fr 5
  clear hz hend hb2 hv2 HC HT HIS
  go_wp2
  exact bodyPost_ret (read_node _ rfl _ _ w.heap.size _ _ _ _ _ _ rfl (HZ.out _ _ _ _ _ _ _)) rfl (HE.out _)
end Go.Proofs.YtmhfnpabgkkjaaaGreat
/- Walks: the reference's truth: a sum alone, at the end. -/
namespace Go.Proofs.YtmhfnpabgkkjaaaGreat
open Go.RowKit Go.Shelf
attribute [local go_sem] run_store_float
set_option maxRecDepth 100000 in
set_option maxHeartbeats 4000000 in
theorem rtruth_end (B n : Nat) (H : RC B 22 2 .sum 6 n) (ts : List Tok) (hq : isTok ts 2 wnot = false) (a : Tree) (hx : P valV true n .sum ts = some (a, [])) (v : Value) (w : World) (hn : 12 * ts.length + 7 ≤ n + 1) (hl : ts.length ≤ 1000000) (hB : B ≤ w.heap.size) (hK : KOk ts) (hv : TokV B w v ts) :
    Calls Tryz.prog 60 #[v] w (REnd B (P valV true (n + 1) .not ts) w) := by
  have HB := Lib.hid hB
  have HT := Lib.hid hv
  have HIS := Lib.hid (fun W (h : TokV B W v ts) => ris B v ts 2 (.inl rfl) wnot hK hl W h)
  have HC := Lib.hid (fun W (hb : B ≤ W.heap.size) ht => H ts v W (by omega) hl hb hK ht)
  rw [P_not_no n ts hq, hx]
  rw [hx] at HC
  rw [hq] at HIS
  obtain ⟨x, tn, tc, rfl⟩ := hv.agg
  show Calls _ _ _ _ (REnd B (some (a, [])) w)
  clear hn hl hB hK hv H hq hx
  go_enter Tryz.func60, Tryz.ntmps60
  go_wp2_with (first | (go_at_call 62; refine (HIS.out _ (HT.out.below ((Below.refl _ _).alloc (Nat.le_refl _) _) HB.out)).mono ?_; rintro e w5 ⟨rfl, rfl⟩) | (go_at_call 22; fail))
  go_at_call 22
  refine (HC.out _ (by have := HB.out; simp; omega) (HT.out.below ((Below.refl _ _).alloc (Nat.le_refl _) _) HB.out)).mono ?_
  rintro e w2 ⟨hb2, v2, rfl, hv2⟩
  obtain ⟨hz, o, n, s, x2, l, c, y, m, d, bad, rfl, hend⟩ := rwrap HB.out hb2 hv2
  have HE := Lib.hid (fun c0 => hend.alloc HB.out c0)
  obtain ⟨rfl, rfl⟩ : bad = false ∧ m = 0 := by
    obtain ⟨_, v, hv, _, _, _, _, _, _, _, _, _, bad2, _, h2, _, ⟨_, h3⟩ | ⟨h3, ts, h4, ⟨_, _, h5, _⟩, _⟩⟩ := hend
    · cases h3
    · cases hv; cases h2; cases h4; cases h5; exact ⟨h3, rfl⟩
  have hlt := hz.lt
  have HZ := Lib.hid (fun v0 v1 v2 v3 v4 v5 c0 => (hz.put (v0 := v0) (v1 := v1) (v2 := v2) (v3 := v3) (v4 := v4) (v5 := v5)).below ((Below.refl _ (putR w2 w.heap.size v0 v1 v2 v3 v4 v5)).alloc (Nat.le_refl _) c0))
  obtain ⟨k0, k1, k2, k3, k4, k5⟩ := hz.cells
  have f0 := hz.fr 0
  have f1 := hz.fr 1
  have f2 := hz.fr 2
  have f3 := hz.fr 3
  have f4 := hz.fr 4
  have f5 := hz.fr 5
  clear hz hend hb2 hv2 HC HT HIS
  go_wp2
  exact bodyPost_ret (read_node _ rfl _ _ w.heap.size _ _ _ _ _ _ rfl (HZ.out _ _ _ _ _ _ _)) rfl (HE.out _)
end Go.Proofs.YtmhfnpabgkkjaaaGreat
/- Walks: the reference's truth: a sum, behind it a piece of another kind. -/
namespace Go.Proofs.YtmhfnpabgkkjaaaGreat
open Go.RowKit Go.Shelf
attribute [local go_sem] run_store_float
set_option maxRecDepth 100000 in
set_option maxHeartbeats 4000000 in
theorem rtruth_kind (B n : Nat) (H : RC B 22 2 .sum 6 n) (ts : List Tok) (hq : isTok ts 2 wnot = false) (a : Tree) (t : Tok) (r1 : List Tok) (ht4 : t.k ≠ 4) (hx : P valV true n .sum ts = some (a, t :: r1)) (v : Value) (w : World) (hn : 12 * ts.length + 7 ≤ n + 1) (hl : ts.length ≤ 1000000) (hB : B ≤ w.heap.size) (hK : KOk ts) (hv : TokV B w v ts) :
    Calls Tryz.prog 60 #[v] w (REnd B (P valV true (n + 1) .not ts) w) := by
  have HB := Lib.hid hB
  have HT := Lib.hid hv
  have HIS := Lib.hid (fun W (h : TokV B W v ts) => ris B v ts 2 (.inl rfl) wnot hK hl W h)
  have HC := Lib.hid (fun W (hb : B ≤ W.heap.size) ht => H ts v W (by omega) hl hb hK ht)
  have hcr : cmpR n (some (a, t :: r1)) = some (a, t :: r1) := if_neg (fun h => ht4 h.1)
  rw [P_not_no n ts hq, hx, hcr]
  rw [hx] at HC
  rw [hq] at HIS
  obtain ⟨x, tn, tc, rfl⟩ := hv.agg
  show Calls _ _ _ _ (REnd B (some (a, t :: r1)) w)
  clear hn hl hB hK hv H hq hx
  go_enter Tryz.func60, Tryz.ntmps60
  go_wp2_with (first | (go_at_call 62; refine (HIS.out _ (HT.out.below ((Below.refl _ _).alloc (Nat.le_refl _) _) HB.out)).mono ?_; rintro e w5 ⟨rfl, rfl⟩) | (go_at_call 22; fail))
  go_at_call 22
  refine (HC.out _ (by have := HB.out; simp; omega) (HT.out.below ((Below.refl _ _).alloc (Nat.le_refl _) _) HB.out)).mono ?_
  rintro e w2 ⟨hb2, v2, rfl, hv2⟩
  obtain ⟨hz, o, n, s, x2, l, c, y, m, d, bad, rfl, hend⟩ := rwrap HB.out hb2 hv2
  have HE := Lib.hid (fun c0 => hend.alloc HB.out c0)
  obtain ⟨rfl, N, rfl, hN, ad, rfl, hab, g2, K, hK, hKn⟩ : bad = false ∧ ∃ N, m = N ∧ 0 < N ∧ ∃ ad, y = some ad ∧ ad.block < B ∧ w2.cell? ad = some (.int .u8 (kd t.k)) ∧ ∃ K, kd t.k = K ∧ ¬ K = 115 := by
    obtain ⟨_, _, _, _, _, _, _, _, _, _, _, h2, _, ⟨_, h3⟩ | ⟨h3, ts, h4, htv, hk⟩⟩ := hv2
    · cases h3
    · cases h2; cases h4
      obtain ⟨x', cap, h5, hcap, hx', hc⟩ := htv
      cases h5
      cases y with
      | none => have := hx' rfl; cases this
      | some ad =>
        obtain ⟨p1, p2, _⟩ := hc ad rfl 0 t rfl
        refine ⟨h3, _, rfl, by simp, ad, rfl, p1, p2, _, rfl, ?_⟩
        rcases (hk t (by simp)).1 with h | h | h | h
        · rw [h]; decide
        · rw [h]; decide
        · rw [h]; decide
        · exact absurd h ht4
  rw [hK] at g2
  have hlt := hz.lt
  have hab2 : ad.block < w2.heap.size := by have := HB.out; omega
  have q2 : (K != 115) = true := by simpa using hKn
  have q3 : ((m : Int) == 0) = false := by simp; omega
  have HZ := Lib.hid (fun v0 v1 v2 v3 v4 v5 c0 => (hz.put (v0 := v0) (v1 := v1) (v2 := v2) (v3 := v3) (v4 := v4) (v5 := v5)).below ((Below.refl _ (putR w2 w.heap.size v0 v1 v2 v3 v4 v5)).alloc (Nat.le_refl _) c0))
  obtain ⟨k0, k1, k2, k3, k4, k5⟩ := hz.cells
  have f0 := hz.fr 0
  have f1 := hz.fr 1
  have f2 := hz.fr 2
  have f3 := hz.fr 3
  have f4 := hz.fr 4
  have f5 := hz.fr 5
  clear hz hend hb2 hv2 HC HT HIS hK hcr ht4 hab
  go_wp2
  exact bodyPost_ret (read_node _ rfl _ _ w.heap.size _ _ _ _ _ _ rfl (HZ.out _ _ _ _ _ _ _)) rfl (HE.out _)
end Go.Proofs.YtmhfnpabgkkjaaaGreat
/- Walks: the reference's truth: a sum, behind it a sign that is no comparison. -/
namespace Go.Proofs.YtmhfnpabgkkjaaaGreat
open Go.RowKit Go.Shelf
attribute [local go_sem] run_store_float
set_option maxRecDepth 100000 in
set_option maxHeartbeats 4000000 in
theorem rtruth_sign (B n : Nat) (H : RC B 22 2 .sum 6 n) (ts : List Tok) (hq : isTok ts 2 wnot = false) (a : Tree) (t : Tok) (r1 : List Tok) (ht4 : t.k = 4) (hcm : isCmp t.s = false) (hx : P valV true n .sum ts = some (a, t :: r1)) (v : Value) (w : World) (hn : 12 * ts.length + 7 ≤ n + 1) (hl : ts.length ≤ 1000000) (hB : B ≤ w.heap.size) (hK : KOk ts) (hv : TokV B w v ts) :
    Calls Tryz.prog 60 #[v] w (REnd B (P valV true (n + 1) .not ts) w) := by
  have HB := Lib.hid hB
  have HT := Lib.hid hv
  have HIS := Lib.hid (fun W (h : TokV B W v ts) => ris B v ts 2 (.inl rfl) wnot hK hl W h)
  have HC := Lib.hid (fun W (hb : B ≤ W.heap.size) ht => H ts v W (by omega) hl hb hK ht)
  have hcr : cmpR n (some (a, t :: r1)) = some (a, t :: r1) := if_neg (fun h => by rw [hcm] at h; cases h.2)
  rw [P_not_no n ts hq, hx, hcr]
  rw [hx] at HC
  rw [hq] at HIS
  obtain ⟨x, tn, tc, rfl⟩ := hv.agg
  show Calls _ _ _ _ (REnd B (some (a, t :: r1)) w)
  clear hn hl hB hK hv H hq hx
  go_enter Tryz.func60, Tryz.ntmps60
  go_wp2_with (first | (go_at_call 62; refine (HIS.out _ (HT.out.below ((Below.refl _ _).alloc (Nat.le_refl _) _) HB.out)).mono ?_; rintro e w5 ⟨rfl, rfl⟩) | (go_at_call 22; fail))
  go_at_call 22
  refine (HC.out _ (by have := HB.out; simp; omega) (HT.out.below ((Below.refl _ _).alloc (Nat.le_refl _) _) HB.out)).mono ?_
  rintro e w2 ⟨hb2, v2, rfl, hv2⟩
  obtain ⟨hz, o, n, s, x2, l, c, y, m, d, bad, rfl, hend⟩ := rwrap HB.out hb2 hv2
  have HE := Lib.hid (fun c0 => hend.alloc HB.out c0)
  obtain ⟨rfl, N, rfl, hN, ad, rfl, hab, g2, g3⟩ : bad = false ∧ ∃ N, m = N ∧ 0 < N ∧ ∃ ad, y = some ad ∧ ad.block < B ∧ w2.cell? ad = some (.int .u8 (kd t.k)) ∧ w2.cell? ⟨ad.block, ad.off + 1, none⟩ = some (.string (tx t.s)) := by
    obtain ⟨_, _, _, _, _, _, _, _, _, _, _, h2, _, ⟨_, h3⟩ | ⟨h3, ts, h4, htv, hk⟩⟩ := hv2
    · cases h3
    · cases h2; cases h4
      obtain ⟨x', cap, h5, hcap, hx', hc⟩ := htv
      cases h5
      cases y with
      | none => have := hx' rfl; cases this
      | some ad =>
        obtain ⟨p1, p2, p3⟩ := hc ad rfl 0 t rfl
        exact ⟨h3, _, rfl, by simp, ad, rfl, p1, p2, by simpa [Addr.add] using p3⟩
  rw [ht4, show kd 4 = 115 from rfl] at g2
  have hg : t.s ≠ [61] ∧ t.s ≠ [33, 61] ∧ t.s ≠ [60] ∧ t.s ≠ [60, 61] ∧ t.s ≠ [62] ∧ t.s ≠ [62, 61] := by
    simpa [isCmp, not_or] using hcm
  have t1 : ((tx t.s).toList == [61]) = false := tx_ne hg.1
  have t2 : ((tx t.s).toList == [33, 61]) = false := tx_ne hg.2.1
  have t3 : ((tx t.s).toList == [60]) = false := tx_ne hg.2.2.1
  have t4 : ((tx t.s).toList == [60, 61]) = false := tx_ne hg.2.2.2.1
  have t5 : ((tx t.s).toList == [62]) = false := tx_ne hg.2.2.2.2.1
  have t6 : ((tx t.s).toList == [62, 61]) = false := tx_ne hg.2.2.2.2.2
  have hlt := hz.lt
  have hab2 : ad.block < w2.heap.size := by have := HB.out; omega
  have q3 : ((m : Int) == 0) = false := by simp; omega
  have HZ := Lib.hid (fun v0 v1 v2 v3 v4 v5 c0 => (hz.put (v0 := v0) (v1 := v1) (v2 := v2) (v3 := v3) (v4 := v4) (v5 := v5)).below ((Below.refl _ (putR w2 w.heap.size v0 v1 v2 v3 v4 v5)).alloc (Nat.le_refl _) c0))
  obtain ⟨k0, k1, k2, k3, k4, k5⟩ := hz.cells
  have f0 := hz.fr 0
  have f1 := hz.fr 1
  have f2 := hz.fr 2
  have f3 := hz.fr 3
  have f4 := hz.fr 4
  have f5 := hz.fr 5
  clear hz hend hb2 hv2 HC HT HIS hcr ht4 hab hg hcm
  go_wp2
  exact bodyPost_ret (read_node _ rfl _ _ w.heap.size _ _ _ _ _ _ rfl (HZ.out _ _ _ _ _ _ _)) rfl (HE.out _)
end Go.Proofs.YtmhfnpabgkkjaaaGreat
/- Walks: the reference's truth: a sum, and a comparison with another one. -/
namespace Go.Proofs.YtmhfnpabgkkjaaaGreat
open Go.RowKit Go.Shelf
attribute [local go_sem] run_store_float
set_option maxRecDepth 100000 in
set_option maxHeartbeats 4000000 in
theorem rtruth_cmp (B n : Nat) (H : RC B 22 2 .sum 6 n) (ts : List Tok) (hq : isTok ts 2 wnot = false) (a : Tree) (t : Tok) (r1 : List Tok) (ht4 : t.k = 4) (hcm : isCmp t.s = true) (hx : P valV true n .sum ts = some (a, t :: r1)) (v : Value) (w : World) (hn : 12 * ts.length + 7 ≤ n + 1) (hl : ts.length ≤ 1000000) (hB : B ≤ w.heap.size) (hK : KOk ts) (hv : TokV B w v ts) :
    Calls Tryz.prog 60 #[v] w (REnd B (P valV true (n + 1) .not ts) w) := by
  have HB := Lib.hid hB
  have HT := Lib.hid hv
  have HIS := Lib.hid (fun W (h : TokV B W v ts) => ris B v ts 2 (.inl rfl) wnot hK hl W h)
  have HC := Lib.hid (fun W (hb : B ≤ W.heap.size) ht => H ts v W (by omega) hl hb hK ht)
  have hcr : cmpR n (some (a, t :: r1)) = (match P valV true n .sum r1 with | none => none | some (b, r') => some (two t.s a b, r')) := if_pos ⟨ht4, hcm⟩
  have hlen := (P_len valV true n .sum ts a (t :: r1) hx).1
  obtain ⟨res2, hres2⟩ : ∃ y, y = P valV true n .sum r1 := ⟨_, rfl⟩
  obtain ⟨RR, hRR⟩ : ∃ y, y = (match res2 with | none => none | some (b, r') => some (two t.s a b, r')) := ⟨_, rfl⟩
  rw [P_not_no n ts hq, hx, hcr, ← hres2, ← hRR]
  have HRR := Lib.hid hRR
  clear hRR
  have HC2 : Hid (∀ (W : World) v1, B ≤ W.heap.size → KOk r1 → TokV B W v1 r1 → Calls Tryz.prog 22 #[v1, .int .i64 2] W (REnd B res2 W)) := Lib.hid (fun W v1 hb hk ht => by
    rw [hres2]
    exact H r1 v1 W (by rw [List.length_cons] at hlen; omega) (by rw [List.length_cons] at hlen; omega) hb hk ht)
  rw [hx] at HC
  rw [hq] at HIS
  obtain ⟨x, tn, tc, rfl⟩ := hv.agg
  clear hn hl hB hK hv H hq hx hres2 hlen
  go_enter Tryz.func60, Tryz.ntmps60
  go_wp2_with (first | (go_at_call 62; refine (HIS.out _ (HT.out.below ((Below.refl _ _).alloc (Nat.le_refl _) _) HB.out)).mono ?_; rintro e w5 ⟨rfl, rfl⟩) | (go_at_call 22; fail))
  go_at_call 22
  refine (HC.out _ (by have := HB.out; simp; omega) (HT.out.below ((Below.refl _ _).alloc (Nat.le_refl _) _) HB.out)).mono ?_
  rintro e w2 ⟨hb2, v2, rfl, o, nn, s, x2, l, c, y, m, d, bad, ta, rfl, hnode, hcase⟩
  obtain ⟨rfl, hta, htv, hk⟩ : bad = false ∧ ta = a ∧ TokV B w2 (.slice y m d) (t :: r1) ∧ KOk (t :: r1) := by
    rcases hcase with ⟨_, h3⟩ | ⟨h3, ts, h4, htv, hk⟩
    · cases h3
    · cases h4; exact ⟨h3, rfl, htv, hk⟩
  subst hta
  clear hcase
  obtain ⟨hm, ad, rfl, hab, g2, g3⟩ : 0 < m ∧ ∃ ad, y = some ad ∧ ad.block < B ∧ w2.cell? ad = some (.int .u8 (kd t.k)) ∧ w2.cell? ⟨ad.block, ad.off + 1, none⟩ = some (.string (tx t.s)) := by
    obtain ⟨x', cap, h5, hcap, hx', hc⟩ := htv
    cases h5
    cases y with
    | none => have := hx' rfl; cases this
    | some ad =>
      obtain ⟨p1, p2, p3⟩ := hc ad rfl 0 t rfl
      exact ⟨by simp, ad, rfl, p1, p2, by simpa [Addr.add] using p3⟩
  rw [ht4, show kd 4 = 115 from rfl] at g2
  obtain ⟨y2, m2, d2, hsl, hts2⟩ := tok_slice htv
  have hsz : (w.alloc (.cells #[.string ⟨#[]⟩, .float .f64 0, .string ⟨#[]⟩, .slice none 0 0, .slice none 0 0, .bool false] 59)).heap.size = w.heap.size + 1 := by simp
  have hr0 : RB (w.alloc (.cells #[.string ⟨#[]⟩, .float .f64 0, .string ⟨#[]⟩, .slice none 0 0, .slice none 0 0, .bool false] 59)) w.heap.size _ _ _ _ _ _ := heap_alloc_new _ _
  have hz := hr0.below hb2
  rw [hsz] at hb2 hnode
  have hlt := hz.lt
  have hab2 : ad.block < w2.heap.size := by have := HB.out; omega
  have q3 : ((m : Int) == 0) = false := by simp; omega
  have hal : Below w2.heap.size w2 (w2.alloc (.cells #[.string o, .float .f64 nn, .string s, .slice x2 l c, .slice (some ad) m d, .bool false] 59)) := (Below.refl _ _).alloc (Nat.le_refl _) _
  have HBW4 : Hid (Below w.heap.size w (w2.alloc (.cells #[.string o, .float .f64 nn, .string s, .slice x2 l c, .slice (some ad) m d, .bool false] 59))) := Lib.hid (((bel1 w _).trans (below_le hb2 (by omega))).trans (below_le hal (by omega)))
  have HZ4 := Lib.hid (hz.below hal)
  have HG4 : Hid (RB (w2.alloc (.cells #[.string o, .float .f64 nn, .string s, .slice x2 l c, .slice (some ad) m d, .bool false] 59)) w2.heap.size _ _ _ _ _ _) := Lib.hid (heap_alloc_new _ _)
  have HND4 := Lib.hid (hnode.below hal)
  have HTS4 := Lib.hid (hts2.below hal (by have := HB.out; omega))
  have HK1 := Lib.hid hk.tail
  have hg6 : t.s = [61] ∨ t.s = [33, 61] ∨ t.s = [60] ∨ t.s = [60, 61] ∨ t.s = [62] ∨ t.s = [62, 61] := by simpa [isCmp] using hcm
  have hT : (((tx t.s).toList == [61]) = true) ∨ (((tx t.s).toList == [61]) = false ∧ ((tx t.s).toList == [33, 61]) = true) ∨ (((tx t.s).toList == [61]) = false ∧ ((tx t.s).toList == [33, 61]) = false ∧ ((tx t.s).toList == [60]) = true) ∨ (((tx t.s).toList == [61]) = false ∧ ((tx t.s).toList == [33, 61]) = false ∧ ((tx t.s).toList == [60]) = false ∧ ((tx t.s).toList == [60, 61]) = true) ∨ (((tx t.s).toList == [61]) = false ∧ ((tx t.s).toList == [33, 61]) = false ∧ ((tx t.s).toList == [60]) = false ∧ ((tx t.s).toList == [60, 61]) = false ∧ ((tx t.s).toList == [62]) = true) ∨ (((tx t.s).toList == [61]) = false ∧ ((tx t.s).toList == [33, 61]) = false ∧ ((tx t.s).toList == [60]) = false ∧ ((tx t.s).toList == [60, 61]) = false ∧ ((tx t.s).toList == [62]) = false ∧ ((tx t.s).toList == [62, 61]) = true) := by
    rcases hg6 with h | h | h | h | h | h <;> rw [h]
    · exact .inl (tx_same _)
    · exact .inr (.inl (⟨tx_ne (by decide), tx_same _⟩))
    · exact .inr (.inr (.inl (⟨tx_ne (by decide), tx_ne (by decide), tx_same _⟩)))
    · exact .inr (.inr (.inr (.inl (⟨tx_ne (by decide), tx_ne (by decide), tx_ne (by decide), tx_same _⟩))))
    · exact .inr (.inr (.inr (.inr (.inl (⟨tx_ne (by decide), tx_ne (by decide), tx_ne (by decide), tx_ne (by decide), tx_same _⟩)))))
    · exact .inr (.inr (.inr (.inr (.inr (⟨tx_ne (by decide), tx_ne (by decide), tx_ne (by decide), tx_ne (by decide), tx_ne (by decide), tx_same _⟩)))))
  clear hz hr0 hsz hb2 hnode htv hk hts2 hal hcm hg6 ht4 hcr HC HT HIS hab
  rcases hT with h1 | ⟨h1, h2⟩ | ⟨h1, h2, h3⟩ | ⟨h1, h2, h3, h4⟩ | ⟨h1, h2, h3, h4, h5⟩ | ⟨h1, h2, h3, h4, h5, h6⟩
  all_goals
    go_wp2_with (first | (go_at_call 22; fail))
    generalize (w2.alloc (.cells #[.string o, .float .f64 nn, .string s, .slice x2 l c, .slice (some ad) m d, .bool false] 59)) = W4 at HBW4 HZ4 HG4 HND4 HTS4 ⊢
    generalize w2.heap.size = g4 at HG4 hlt ⊢
    refine (HC2.out W4 _ (by have := HB.out; have := HBW4.out.size; omega) HK1.out HTS4.out).mono ?_
    rintro e w5 ⟨hb5, v5, rfl, o5, n5, s5, x5, l5, c5, y5, m5, d5, bad5, tb, rfl, hnode5, hcase5⟩
    have hal5 : Below w5.heap.size w5 (w5.alloc (.cells #[.string o5, .float .f64 n5, .string s5, .slice x5 l5 c5, .slice y5 m5 d5, .bool bad5] 59)) := (Below.refl _ _).alloc (Nat.le_refl _) _
    have hle5 := hb5.size
    have hle4 := HG4.out.lt
    have HZ7 := Lib.hid ((HZ4.out.below hb5).below hal5)
    have HG47 := Lib.hid ((HG4.out.below hb5).below hal5)
    have HG7 : Hid (RB (w5.alloc (.cells #[.string o5, .float .f64 n5, .string s5, .slice x5 l5 c5, .slice y5 m5 d5, .bool bad5] 59)) w5.heap.size _ _ _ _ _ _) := Lib.hid (heap_alloc_new _ _)
    have HND47 := Lib.hid ((HND4.out.below hb5).below hal5)
    have HND7 := Lib.hid ((hnode5.sub (B := fun b => w.heap.size + 1 ≤ b) (fun b h1 _ => by have h3 : W4.heap.size ≤ b := h1; show w.heap.size + 1 ≤ b; omega)).below hal5)
    have HBW7 : Hid (Below w.heap.size w (w5.alloc (.cells #[.string o5, .float .f64 n5, .string s5, .slice x5 l5 c5, .slice y5 m5 d5, .bool bad5] 59))) := Lib.hid ((HBW4.out.trans (below_le hb5 (by omega))).trans (below_le hal5 (by omega)))
    have HCS7 := Lib.hid (show (bad5 = true ∧ res2 = none) ∨ (bad5 = false ∧ ∃ ts, res2 = some (tb, ts) ∧ TokV B (w5.alloc (.cells #[.string o5, .float .f64 n5, .string s5, .slice x5 l5 c5, .slice y5 m5 d5, .bool bad5] 59)) (.slice y5 m5 d5) ts ∧ KOk ts) from by
      rcases hcase5 with h1 | ⟨h1, ts, h2, h3, h4⟩
      · exact .inl h1
      · exact .inr ⟨h1, ts, h2, h3.below hal5 (by have := HB.out; omega), h4⟩)
    have hg45 : g4 < w5.heap.size := by omega
    clear HZ4 HG4 HND4 HTS4 HC2 hb5 hnode5 hcase5 hal5
    go_wp2_with fail
    generalize (w5.alloc (.cells #[.string o5, .float .f64 n5, .string s5, .slice x5 l5 c5, .slice y5 m5 d5, .bool bad5] 59)) = W7 at HBW7 HZ7 HG47 HND47 HG7 HND7 HCS7 ⊢
    generalize w5.heap.size = g7 at HG7 hg45 ⊢
    have HSS : Hid (∀ W, RB W g4 (.string o) (.float .f64 nn) (.string s) (.slice x2 l c) (.slice (some ad) m d) (.bool false) → RB W g7 (.string o5) (.float .f64 n5) (.string s5) (.slice x5 l5 c5) (.slice y5 m5 d5) (.bool bad5) → W.cell? ⟨g4, 0, none⟩ = some (.string o) ∧ W.cell? ⟨g4, 1, none⟩ = some (.float .f64 nn) ∧ W.cell? ⟨g4, 2, none⟩ = some (.string s) ∧ W.cell? ⟨g4, 3, none⟩ = some (.slice x2 l c) ∧ W.cell? ⟨g7, 0, none⟩ = some (.string o5) ∧ W.cell? ⟨g7, 1, none⟩ = some (.float .f64 n5) ∧ W.cell? ⟨g7, 2, none⟩ = some (.string s5) ∧ W.cell? ⟨g7, 3, none⟩ = some (.slice x5 l5 c5) ∧ W.cell? ⟨g7, 4, none⟩ = some (.slice y5 m5 d5) ∧ W.cell? ⟨g7, 5, none⟩ = some (.bool bad5)) := Lib.hid (fun W h1 h2 => by
      obtain ⟨a0, a1, a2, a3, _, _⟩ := h1.cells
      exact ⟨a0, a1, a2, a3, h2.cells⟩)
    have HS0 := Lib.hid (HSS.out W7.drew HG47.out HG7.out)
    clear g2 g3
    refine wp_region_held (S := (fun w' => w'.cell? ⟨g4, 0, none⟩ = some (.string o) ∧ w'.cell? ⟨g4, 1, none⟩ = some (.float .f64 nn) ∧ w'.cell? ⟨g4, 2, none⟩ = some (.string s) ∧ w'.cell? ⟨g4, 3, none⟩ = some (.slice x2 l c) ∧ w'.cell? ⟨g7, 0, none⟩ = some (.string o5) ∧ w'.cell? ⟨g7, 1, none⟩ = some (.float .f64 n5) ∧ w'.cell? ⟨g7, 2, none⟩ = some (.string s5) ∧ w'.cell? ⟨g7, 3, none⟩ = some (.slice x5 l5 c5) ∧ w'.cell? ⟨g7, 4, none⟩ = some (.slice y5 m5 d5) ∧ w'.cell? ⟨g7, 5, none⟩ = some (.bool bad5))) (by kernel_rfl) ?_
    change wpAnyH _ _ _ _ _ _ _ _ (World.drew _)
    refine wpAnyH_take (i := 0) (v := _) rfl (by kernel_rfl) (by kernel_rfl) (by kernel_rfl) (fun _ _ _ h => h) (Or.inl ⟨by rfl, by intro w hSw; (try dsimp only at hSw); go_simp; try (with_reducible rfl)⟩) HS0.out ?_
    try simp only [Act.put]
    refine wpAnyH_take (i := 1) (v := _) rfl (by kernel_rfl) (by kernel_rfl) (by kernel_rfl) (fun _ _ _ h => h) (Or.inl ⟨by rfl, by intro w hSw; (try dsimp only at hSw); go_simp; try (with_reducible rfl)⟩) HS0.out ?_
    try simp only [Act.put]
    refine wpAnyH_take (i := 2) (v := _) rfl (by kernel_rfl) (by kernel_rfl) (by kernel_rfl) (fun _ _ _ h => h) (Or.inl ⟨by rfl, by intro w hSw; (try dsimp only at hSw); go_simp; try (with_reducible rfl)⟩) HS0.out ?_
    try simp only [Act.put]
    refine wpAnyH_take (i := 3) (v := _) rfl (by kernel_rfl) (by kernel_rfl) (by kernel_rfl) (fun _ _ _ h => h) (Or.inl ⟨by rfl, by intro w hSw; (try dsimp only at hSw); go_simp; try (with_reducible rfl)⟩) HS0.out ?_
    try simp only [Act.put]
    refine wpAnyH_take (i := 4) (v := _) rfl (by kernel_rfl) (by kernel_rfl) (by kernel_rfl) (fun _ _ _ h => h) (Or.inl ⟨by rfl, by intro w hSw; (try dsimp only at hSw); go_simp; try (with_reducible rfl)⟩) HS0.out ?_
    try simp only [Act.put]
    refine wpAnyH_take (i := 6) (v := _) rfl (by kernel_rfl) (by kernel_rfl) (by kernel_rfl) (fun _ _ _ h => h) (Or.inl ⟨by rfl, by intro w hSw; (try dsimp only at hSw); go_simp; try (with_reducible rfl)⟩) HS0.out ?_
    try simp only [Act.put]
    refine wpAnyH_take (i := 7) (v := _) rfl (by kernel_rfl) (by kernel_rfl) (by kernel_rfl) (fun _ _ _ h => h) (Or.inl ⟨by rfl, by intro w hSw; (try dsimp only at hSw); go_simp; try (with_reducible rfl)⟩) HS0.out ?_
    try simp only [Act.put]
    refine wpAnyH_take (i := 8) (v := _) rfl (by kernel_rfl) (by kernel_rfl) (by kernel_rfl) (fun _ _ _ h => h) (Or.inl ⟨by rfl, by intro w hSw; (try dsimp only at hSw); go_simp; try (with_reducible rfl)⟩) HS0.out ?_
    try simp only [Act.put]
    refine wpAnyH_take (i := 9) (v := _) rfl (by kernel_rfl) (by kernel_rfl) (by kernel_rfl) (fun _ _ _ h => h) (Or.inl ⟨by rfl, by intro w hSw; (try dsimp only at hSw); go_simp; try (with_reducible rfl)⟩) HS0.out ?_
    try simp only [Act.put]
    refine wpAnyH_ready (rs := [5]) (by kernel_rfl) (by simp) ?_
    refine AllReadyH.cons rfl (fun K hK => ?_) AllReadyH.nil
    go_simp
    go_wp2_with (first | (go_at_call 35; fail))
    refine (rtwo (fun b => w.heap.size + 1 ≤ b) t.s _ _ ta tb _ (fun b hb => ?_) HND47.out.drew HND7.out.drew).mono ?_
    · have h1 := HBW7.out.size; have h2 := HZ7.out.lt; have h3 : W7.heap.size ≤ b := hb; show w.heap.size + 1 ≤ b; omega
    rintro e w6 ⟨v6, rfl, hv6, hb6⟩
    obtain ⟨o6, n6, s6, x6, l6, c6, rfl⟩ := hv6.agg
    have HB6 : Hid (Below W7.heap.size W7 w6) := Lib.hid ((Below.refl _ _).drew.trans hb6)
    have HZ6 := Lib.hid (HZ7.out.below HB6.out)
    have HG46 := Lib.hid (HG47.out.below HB6.out)
    have HG6 := Lib.hid (HG7.out.below HB6.out)
    have HS6 := Lib.hid (HSS.out w6 HG46.out HG6.out)
    have HS8 := Lib.hid (HSS.out (putR w6 w.heap.size (.string o6) (.float .f64 n6) (.string s6) (.slice x6 l6 c6) (.slice y5 m5 d5) (.bool bad5)) ((putR_other (by omega)).trans HG46.out) ((putR_other (by omega)).trans HG6.out))
    have HE : Hid (REnd B RR w (.returned (.agg #[.string o6, .float .f64 n6, .string s6, .slice x6 l6 c6, .slice y5 m5 d5, .bool bad5])) (putR w6 w.heap.size (.string o6) (.float .f64 n6) (.string s6) (.slice x6 l6 c6) (.slice y5 m5 d5) (.bool bad5))) := Lib.hid (by
      rw [HRR.out]
      have h7 := HBW7.out.size
      refine ⟨below_putR (HBW7.out.trans (below_le HB6.out h7)) (Nat.le_refl _), _, rfl, _, _, _, _, _, _, _, _, _, _, _, rfl, (hv6.putR (fun hh => by have h3 : w.heap.size + 1 ≤ w.heap.size := hh; omega)).sub (fun b h1 _ => by have h3 : w.heap.size + 1 ≤ b := h1; show w.heap.size ≤ b; omega), ?_⟩
      rcases HCS7.out with ⟨h1, h2⟩ | ⟨h1, ts, h2, h3, h4⟩
      · subst h2; exact .inl ⟨h1, rfl⟩
      · subst h2; exact .inr ⟨h1, ts, rfl, (h3.below HB6.out (by have := HB.out; omega)).putR HB.out, h4⟩)
    obtain ⟨k0, k1, k2, k3, k4, k5⟩ := HZ6.out.cells
    have f0 := HZ6.out.fr 0
    have f1 := HZ6.out.fr 1
    have f2 := HZ6.out.fr 2
    have f3 := HZ6.out.fr 3
    have f4 := HZ6.out.fr 4
    have f5 := HZ6.out.fr 5
    clear hv6 hb6
    refine hK.out _ _ HS6.out (fun _ => ?_)
    clear hK K
    try simp only [Act.put, List.setIfInBounds_toArray]
    refine wpAnyH_take (i := 10) (v := _) rfl (by kernel_rfl) (by kernel_rfl) (by kernel_rfl) (fun _ _ _ h => h) (Or.inl ⟨by rfl, by intro w hSw; (try dsimp only at hSw); go_simp; try (with_reducible rfl)⟩) HS6.out ?_
    try simp only [Act.put]
    refine wpAnyH_ready (rs := [11]) (by kernel_rfl) (by simp) ?_
    refine AllReadyH.cons rfl (fun K hK => ?_) AllReadyH.nil
    go_simp
    refine hK.out _ _ HS8.out (fun _ => ?_)
    clear hK K
    refine wpAnyH_done (by kernel_rfl) ?_ _
    go_wp2
    exact bodyPost_ret (read_node _ rfl _ _ w.heap.size _ _ _ _ _ _ rfl HZ6.out.put) rfl HE.out
end Go.Proofs.YtmhfnpabgkkjaaaGreat
/- Walks: the reference's truth, all cases. -/
namespace Go.Proofs.YtmhfnpabgkkjaaaGreat
open Go.RowKit Go.Shelf
theorem rtruth_step (B n : Nat) (H : RT B 60 .not 7 n) (HR : RC B 22 2 .sum 6 n) : RT B 60 .not 7 (n + 1) := by
  intro ts v w hn hl hB hK hv
  cases hq : isTok ts 2 wnot
  · rcases hx : P valV true n .sum ts with _ | ⟨a, _ | ⟨t, r1⟩⟩
    · exact rtruth_bad B n HR ts hq hx v w hn hl hB hK hv
    · exact rtruth_end B n HR ts hq a hx v w hn hl hB hK hv
    · by_cases h4 : t.k = 4
      · cases hc : isCmp t.s
        · exact rtruth_sign B n HR ts hq a t r1 h4 hc hx v w hn hl hB hK hv
        · exact rtruth_cmp B n HR ts hq a t r1 h4 hc hx v w hn hl hB hK hv
      · exact rtruth_kind B n HR ts hq a t r1 h4 hx v w hn hl hB hK hv
  · cases ts with
    | nil => cases hq
    | cons t r => exact rtruth_not B n H t r hq v w hn hl hB hK hv
end Go.Proofs.YtmhfnpabgkkjaaaGreat
