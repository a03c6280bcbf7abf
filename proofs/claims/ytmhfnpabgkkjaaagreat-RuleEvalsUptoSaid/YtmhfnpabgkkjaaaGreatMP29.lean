/- Own texts, merged: RG, RH, RI. -/
import Derived.Test.YtmhfnpabgkkjaaaGreatMP28
/- Walks: the reference's atom: nothing, a number, a text. -/
namespace Go.Proofs.YtmhfnpabgkkjaaaGreat
open Go.RowKit Go.Shelf
attribute [local go_sem] run_store_float
theorem tok_first {B : Nat} {w : World} {x : Option Addr} {m d : Nat} {t : Tok} {r : List Tok} (h : TokV B w (.slice x m d) (t :: r)) : 0 < m ∧ ∃ a, x = some a ∧ a.block < B ∧ w.cell? a = some (.int .u8 (kd t.k)) ∧ w.cell? ⟨a.block, a.off + 1, none⟩ = some (.string (tx t.s)) := by
  obtain ⟨x', cap, h5, hcap, hx', hc⟩ := h
  cases h5
  cases x with
  | none => have := hx' rfl; cases this
  | some ad =>
    obtain ⟨p1, p2, p3⟩ := hc ad rfl 0 t rfl
    exact ⟨by simp, ad, rfl, p1, p2, by simpa [Addr.add] using p3⟩
/-- What atom holds once it has the first piece. -/
structure AI (w : World) (B : Nat) (K : Nat) (S : Bs) (v : Value) (ts : List Tok) (W : World) : Prop where
  piece : W.heap[w.heap.size + 1]? = some (.cells #[.int .u8 K, .string (tx S)] 76 (0, 0))
  res : RB W w.heap.size (.string ⟨#[]⟩) (.float .f64 0) (.string ⟨#[]⟩) (.slice none 0 0) (.slice none 0 0) (.bool false)
  bel : Below w.heap.size w W
  toks : TokV B W v ts
theorem AI.below {w : World} {B K : Nat} {S : Bs} {v : Value} {ts : List Tok} {W W' : World} (h : AI w B K S v ts W) (hB : B ≤ w.heap.size) (hb : Below W.heap.size W W') : AI w B K S v ts W' :=
  ⟨(hb.block _ (Array.getElem?_eq_some_iff.1 h.piece).1).trans h.piece, h.res.below hb, h.bel.trans (below_le hb h.bel.size), h.toks.below hb (by have := h.bel.size; omega)⟩
theorem AI.lt {w : World} {B K : Nat} {S : Bs} {v : Value} {ts : List Tok} {W : World} (h : AI w B K S v ts W) : w.heap.size + 1 < W.heap.size := (Array.getElem?_eq_some_iff.1 h.piece).1
theorem AI.cells {w : World} {B K : Nat} {S : Bs} {v : Value} {ts : List Tok} {W : World} (h : AI w B K S v ts W) : W.cell? ⟨w.heap.size + 1, 0, none⟩ = some (.int .u8 K) ∧ W.cell? ⟨w.heap.size + 1, 1, none⟩ = some (.string (tx S)) :=
  ⟨by simp [World.cell?, h.piece], by simp [World.cell?, h.piece]⟩
theorem AI.start {w : World} {B : Nat} {K : Nat} {S : Bs} {v : Value} {ts : List Tok} (hv : TokV B w v ts) (hB : B ≤ w.heap.size) :
    AI w B K S v ts ((w.alloc (.cells #[.string ⟨#[]⟩, .float .f64 0, .string ⟨#[]⟩, .slice none 0 0, .slice none 0 0, .bool false] 59)).alloc (.cells #[.int .u8 K, .string (tx S)] 76)) := by
  have hr : RB (w.alloc (.cells #[.string ⟨#[]⟩, .float .f64 0, .string ⟨#[]⟩, .slice none 0 0, .slice none 0 0, .bool false] 59)) w.heap.size _ _ _ _ _ _ := heap_alloc_new _ _
  have h1 := heap_alloc_new (w.alloc (.cells #[.string ⟨#[]⟩, .float .f64 0, .string ⟨#[]⟩, .slice none 0 0, .slice none 0 0, .bool false] 59)) (.cells #[.int .u8 K, .string (tx S)] 76)
  have h2 := (bel1 w (.cells #[.string ⟨#[]⟩, .float .f64 0, .string ⟨#[]⟩, .slice none 0 0, .slice none 0 0, .bool false] 59)).alloc (by simp) (.cells #[.int .u8 K, .string (tx S)] 76)
  exact ⟨by simpa using h1, hr.below ((Below.refl _ _).alloc (Nat.le_refl _) _), h2, hv.below h2 hB⟩
theorem leaf_end {B : Nat} {w W : World} {op s : Bs} {n : Nat} {z0 z1 z2 z3 z4 z5 : Value} {y2 : Option Addr} {m2 d2 : Nat} {r : List Tok} (hB : B ≤ w.heap.size) (hr : RB W w.heap.size z0 z1 z2 z3 z4 z5) (hb : Below w.heap.size w W) (ht : TokV B W (.slice y2 m2 d2) r) (hK : KOk r) :
    RB (putR W w.heap.size (.string (tx op)) (.float .f64 n) (.string (tx s)) (.slice none 0 0) (.slice y2 m2 d2) (.bool false)).drew w.heap.size (.string (tx op)) (.float .f64 n) (.string (tx s)) (.slice none 0 0) (.slice y2 m2 d2) (.bool false) ∧
    REnd B (some (.mk op n s [], r)) w (.returned (.agg #[.string (tx op), .float .f64 n, .string (tx s), .slice none 0 0, .slice y2 m2 d2, .bool false])) (putR W w.heap.size (.string (tx op)) (.float .f64 n) (.string (tx s)) (.slice none 0 0) (.slice y2 m2 d2) (.bool false)).drew :=
  ⟨hr.put.drew, (below_putR hb (Nat.le_refl _)).drew, _, rfl, _, _, _, _, _, _, _, _, _, _, _, rfl, node_leaf _ _ op s n, .inr ⟨rfl, r, rfl, (ht.putR hB).drew, hK⟩⟩
set_option maxRecDepth 100000 in
set_option maxHeartbeats 2000000 in
theorem ratom_nil (B n : Nat) (v : Value) (w : World) (hB : B ≤ w.heap.size) (hv : TokV B w v []) : Calls Tryz.prog 81 #[v] w (REnd B (P valV true (n + 1) .atom []) w) := by
  have HB := Lib.hid hB
  have HRN : Hid (P valV true (n + 1) .atom [] = none) := Lib.hid (atom_nil n)
  obtain ⟨res, hres⟩ : ∃ y, y = P valV true (n + 1) .atom [] := ⟨_, rfl⟩
  rw [← hres] at HRN ⊢
  obtain ⟨x, tc, rfl, hcap, hx, hc⟩ := hv
  simp only [List.length_nil] at hcap ⊢
  clear hB hres hx hc
  have HZ0 : Hid (RB (w.alloc (.cells #[.string ⟨#[]⟩, .float .f64 0, .string ⟨#[]⟩, .slice none 0 0, .slice none 0 0, .bool false] 59)) w.heap.size _ _ _ _ _ _) := Lib.hid (heap_alloc_new _ _)
  have HB0 := Lib.hid (bel1 w (.cells #[.string ⟨#[]⟩, .float .f64 0, .string ⟨#[]⟩, .slice none 0 0, .slice none 0 0, .bool false] 59))
  go_enter Tryz.func81, Tryz.ntmps81
  go_wp2_with (first | (go_at_call 94; fail))
  go_at_call 94
  refine (rbad B _).mono ?_
  rintro e w6 ⟨hb6, v6, rfl, hv6⟩
  obtain ⟨hz, o, nn, s, x2, l, c, y, m, d, bad, rfl, hend⟩ := rpass HB.out HZ0.out HB0.out hb6 hv6
  have HE := Lib.hid hend
  obtain ⟨k0, k1, k2, k3, k4, k5⟩ := hz.cells
  have HZ := Lib.hid hz
  have f0 := hz.fr 0
  have f1 := hz.fr 1
  have f2 := hz.fr 2
  have f3 := hz.fr 3
  have f4 := hz.fr 4
  have f5 := hz.fr 5
  clear hz hend hb6 hv6 HZ0 HB0
  go_wp2
  rw [HRN.out]
  exact bodyPost_ret (read_node _ rfl _ _ w.heap.size _ _ _ _ _ _ rfl HZ.out.put) rfl HE.out
set_option maxRecDepth 100000 in
set_option maxHeartbeats 4000000 in
theorem ratom_num (B n : Nat) (t : Tok) (r : List Tok) (hk : t.k = 1) (v : Value) (w : World) (hB : B ≤ w.heap.size) (hK : KOk (t :: r)) (hv : TokV B w v (t :: r)) : Calls Tryz.prog 81 #[v] w (REnd B (P valV true (n + 1) .atom (t :: r)) w) := by
  rw [atom_num n t r hk]
  have HVAL := Lib.hid (fun W => rvalue t.s ((hK t (by simp)).2 hk) W)
  have HAI := Lib.hid (AI.start (K := 110) (S := t.s) hv hB)
  have HB := Lib.hid hB
  have HK := Lib.hid hK.tail
  obtain ⟨x, tn, tc, rfl⟩ := hv.agg
  obtain ⟨hpos, a, rfl, hab0, c0, c1⟩ := tok_first hv
  have hab : a.block < w.heap.size := by omega
  have q3 : ((tn : Int) == 0) = false := by simp; omega
  rw [hk, show kd 1 = 110 from rfl] at c0
  obtain ⟨y2, m2, d2, hsl, _⟩ := tok_slice hv
  have HSL : Hid (∀ W, TokV B W (.slice (some a) tn tc) (t :: r) → TokV B W (.slice y2 m2 d2) r) := Lib.hid (fun W hW => by
    obtain ⟨y3, m3, d3, h1, h2⟩ := tok_slice hW
    have h3 := (hsl W).symm.trans (h1 W)
    cases h3
    exact h2)
  generalize t.s = S at c1 HVAL HAI ⊢
  clear hK hB hk hab0
  go_enter Tryz.func81, Tryz.ntmps81
  go_upto_region 4 with (fail)
  generalize ((w.alloc (.cells #[.string ⟨#[]⟩, .float .f64 0, .string ⟨#[]⟩, .slice none 0 0, .slice none 0 0, .bool false] 59)).alloc (.cells #[.int .u8 110, .string (tx S)] 76)) = W1 at HAI ⊢
  have HE := Lib.hid (leaf_end (op := wnum) (s := []) (n := valV S) HB.out HAI.out.res HAI.out.bel (HSL.out W1 HAI.out.toks) HK.out)
  obtain ⟨p0, p1⟩ := HAI.out.cells
  obtain ⟨k0, k1, k2, k3, k4, k5⟩ := HAI.out.res.cells
  have f0 := HAI.out.res.fr 0
  have f1 := HAI.out.res.fr 1
  have f2 := HAI.out.res.fr 2
  have f3 := HAI.out.res.fr 3
  have f4 := HAI.out.res.fr 4
  have f5 := HAI.out.res.fr 5
  have hlt := HAI.out.lt
  clear c0 c1
  go_wp2_with fail
  go_region_with ((go_at_call 95; refine (HVAL.out _).mono ?_; rintro e w4 ⟨rfl, rfl⟩))
  go_wp2
  exact bodyPost_ret (read_node _ rfl _ _ w.heap.size _ _ _ _ _ _ rfl HE.out.1) rfl HE.out.2
set_option maxRecDepth 100000 in
set_option maxHeartbeats 4000000 in
theorem ratom_text (B n : Nat) (t : Tok) (r : List Tok) (hk : t.k = 3) (v : Value) (w : World) (hB : B ≤ w.heap.size) (hK : KOk (t :: r)) (hv : TokV B w v (t :: r)) : Calls Tryz.prog 81 #[v] w (REnd B (P valV true (n + 1) .atom (t :: r)) w) := by
  rw [atom_text n t r hk]
  have HAI := Lib.hid (AI.start (K := 116) (S := t.s) hv hB)
  have HB := Lib.hid hB
  have HK := Lib.hid hK.tail
  obtain ⟨x, tn, tc, rfl⟩ := hv.agg
  obtain ⟨hpos, a, rfl, hab0, c0, c1⟩ := tok_first hv
  have hab : a.block < w.heap.size := by omega
  have q3 : ((tn : Int) == 0) = false := by simp; omega
  rw [hk, show kd 3 = 116 from rfl] at c0
  obtain ⟨y2, m2, d2, hsl, _⟩ := tok_slice hv
  have HSL : Hid (∀ W, TokV B W (.slice (some a) tn tc) (t :: r) → TokV B W (.slice y2 m2 d2) r) := Lib.hid (fun W hW => by
    obtain ⟨y3, m3, d3, h1, h2⟩ := tok_slice hW
    have h3 := (hsl W).symm.trans (h1 W)
    cases h3
    exact h2)
  generalize t.s = S at c1 HAI ⊢
  clear hK hB hk hab0
  go_enter Tryz.func81, Tryz.ntmps81
  go_upto_region 4 with (fail)
  generalize ((w.alloc (.cells #[.string ⟨#[]⟩, .float .f64 0, .string ⟨#[]⟩, .slice none 0 0, .slice none 0 0, .bool false] 59)).alloc (.cells #[.int .u8 116, .string (tx S)] 76)) = W1 at HAI ⊢
  have HE := Lib.hid (leaf_end (op := wtext) (s := S) (n := 0) HB.out HAI.out.res HAI.out.bel (HSL.out W1 HAI.out.toks) HK.out)
  obtain ⟨p0, p1⟩ := HAI.out.cells
  obtain ⟨k0, k1, k2, k3, k4, k5⟩ := HAI.out.res.cells
  have f0 := HAI.out.res.fr 0
  have f1 := HAI.out.res.fr 1
  have f2 := HAI.out.res.fr 2
  have f3 := HAI.out.res.fr 3
  have f4 := HAI.out.res.fr 4
  have f5 := HAI.out.res.fr 5
  have hlt := HAI.out.lt
  clear c0 c1
  go_wp2_with fail
  go_region
  go_wp2
  exact bodyPost_ret (read_node _ rfl _ _ w.heap.size _ _ _ _ _ _ rfl HE.out.1) rfl HE.out.2
end Go.Proofs.YtmhfnpabgkkjaaaGreat
/- Walks: the reference's atom: a sign. -/
namespace Go.Proofs.YtmhfnpabgkkjaaaGreat
open Go.RowKit Go.Shelf
attribute [local go_sem] run_store_float
def insR (x : Option (Tree × List Tok)) : Option (Tree × List Tok) := match x with
  | none => none
  | some (a, t2) => if isTok t2 4 [41] = true then some (a, t2.tail) else none
theorem inside_true (R : List Tok → Option (Tree × List Tok)) (ts : List Tok) : inside true R ts = if isTok ts 4 [40] = true then insR (R ts.tail) else none := by
  unfold inside
  rw [must_true]
  cases isTok ts 4 [40]
  · rfl
  · rw [if_pos rfl, if_pos rfl]
    simp only
    cases R ts.tail with
    | none => rfl
    | some x =>
      obtain ⟨a, r⟩ := x
      simp only [must_true, insR]
      cases isTok r 4 [41] <;> rfl
theorem node_end {B : Nat} {w W : World} {o s : ByteArray} {n : Nat} {x : Option Addr} {l c : Nat} {t : Tree} {z0 z1 z2 z3 z4 z5 : Value} {y2 : Option Addr} {m2 d2 : Nat} {r : List Tok} (hB : B ≤ w.heap.size) (hr : RB W w.heap.size z0 z1 z2 z3 z4 z5) (hb : Below w.heap.size w W)
    (hn : NodeV (fun b => w.heap.size + 1 ≤ b) W (.agg #[.string o, .float .f64 n, .string s, .slice x l c]) t) (ht : TokV B W (.slice y2 m2 d2) r) (hK : KOk r) :
    RB (putR W w.heap.size (.string o) (.float .f64 n) (.string s) (.slice x l c) (.slice y2 m2 d2) (.bool false)).drew w.heap.size (.string o) (.float .f64 n) (.string s) (.slice x l c) (.slice y2 m2 d2) (.bool false) ∧
    REnd B (some (t, r)) w (.returned (.agg #[.string o, .float .f64 n, .string s, .slice x l c, .slice y2 m2 d2, .bool false])) (putR W w.heap.size (.string o) (.float .f64 n) (.string s) (.slice x l c) (.slice y2 m2 d2) (.bool false)).drew := by
  refine ⟨hr.put.drew, (below_putR hb (Nat.le_refl _)).drew, _, rfl, _, _, _, _, _, _, _, _, _, _, _, rfl, ?_, .inr ⟨rfl, r, rfl, (ht.putR hB).drew, hK⟩⟩
  exact ((hn.putR (g := w.heap.size) (fun hh => by have h3 : w.heap.size + 1 ≤ w.heap.size := hh; omega)).sub (fun b h1 _ => by have h3 : w.heap.size + 1 ≤ b := h1; show w.heap.size ≤ b; omega)).drew
set_option maxRecDepth 100000 in
set_option maxHeartbeats 8000000 in
theorem ratom_sign (B n : Nat) (H : RC B 22 0 .or 11 n) (t : Tok) (r : List Tok) (hk : t.k = 4) (v : Value) (w : World) (hn : 12 * (t :: r).length + 1 ≤ n + 1) (hl : (t :: r).length ≤ 1000000) (hB : B ≤ w.heap.size) (hK : KOk (t :: r)) (hv : TokV B w v (t :: r)) : Calls Tryz.prog 81 #[v] w (REnd B (P valV true (n + 1) .atom (t :: r)) w) := by
  rw [atom_in n t r hk, inside_true]
  obtain ⟨res, hres⟩ : ∃ y, y = (if isTok (t :: r) 4 [40] = true then insR (P valV true n .or (t :: r).tail) else none) := ⟨_, rfl⟩
  rw [← hres]
  have HAI := Lib.hid (AI.start (K := 115) (S := t.s) hv hB)
  have HB := Lib.hid hB
  have HIS := Lib.hid (fun W (h : TokV B W v (t :: r)) => ris B v (t :: r) 4 (.inr rfl) [40] hK hl W h)
  obtain ⟨x, tn, tc, rfl⟩ := hv.agg
  obtain ⟨hpos, a, rfl, hab0, c0, c1⟩ := tok_first hv
  have hab : a.block < w.heap.size := by omega
  have q3 : ((tn : Int) == 0) = false := by simp; omega
  rw [hk, show kd 4 = 115 from rfl] at c0
  cases hq : isTok (t :: r) 4 [40]
  · have HRN : Hid (res = none) := Lib.hid (by rw [hres, hq]; rfl)
    rw [hq] at HIS
    generalize t.s = S at c1 HAI
    clear hK hB hk hab0 hn hl hres hq H hv
    go_enter Tryz.func81, Tryz.ntmps81
    go_upto_region 4 with (fail)
    generalize ((w.alloc (.cells #[.string ⟨#[]⟩, .float .f64 0, .string ⟨#[]⟩, .slice none 0 0, .slice none 0 0, .bool false] 59)).alloc (.cells #[.int .u8 115, .string (tx S)] 76)) = W1 at HAI ⊢
    obtain ⟨p0, p1⟩ := HAI.out.cells
    have hlt := HAI.out.lt
    have HIS2 := Lib.hid (HIS.out W1 HAI.out.toks)
    clear c0 c1 HIS
    go_wp2_with (first | (go_at_call 62; refine (HIS2.out).mono ?_; rintro e w5 ⟨rfl, rfl⟩) | (go_at_call 94; fail))
    go_at_call 94
    refine (rbad B _).mono ?_
    rintro e w6 ⟨hb6, v6, rfl, hv6⟩
    obtain ⟨hz, o, nn, s, x2, l, c, y, m, d, bad, rfl, hend⟩ := rpass HB.out HAI.out.res HAI.out.bel hb6 hv6
    have HE := Lib.hid hend
    obtain ⟨k0, k1, k2, k3, k4, k5⟩ := hz.cells
    have HZ := Lib.hid hz
    have f0 := hz.fr 0
    have f1 := hz.fr 1
    have f2 := hz.fr 2
    have f3 := hz.fr 3
    have f4 := hz.fr 4
    have f5 := hz.fr 5
    clear hz hend hb6 hv6 HAI HIS2
    go_wp2
    rw [HRN.out]
    exact bodyPost_ret (read_node _ rfl _ _ w.heap.size _ _ _ _ _ _ rfl HZ.out.put) rfl HE.out
  · obtain ⟨y2, m2, d2, hsl, _⟩ := tok_slice hv
    have HSL : Hid (∀ W, TokV B W (.slice (some a) tn tc) (t :: r) → TokV B W (.slice y2 m2 d2) r) := Lib.hid (fun W hW => by
      obtain ⟨y3, m3, d3, h1, h2⟩ := tok_slice hW
      have h3 := (hsl W).symm.trans (h1 W)
      cases h3
      exact h2)
    obtain ⟨R2, hR2⟩ : ∃ y, y = P valV true n .or r := ⟨_, rfl⟩
    have HC := Lib.hid (fun W (hb : B ≤ W.heap.size) (ht : TokV B W (.slice y2 m2 d2) r) => H r _ W (by simp only [List.length_cons] at hn; omega) (by simp only [List.length_cons] at hl; omega) hb hK.tail ht)
    rw [← hR2] at HC
    have HRE : Hid (res = insR R2) := Lib.hid (by rw [hres, if_pos hq, hR2]; rfl)
    have HLN : Hid (∀ a r2, R2 = some (a, r2) → r2.length ≤ 1000000) := Lib.hid (fun a r2 h => by have h1 := (P_len valV true n .or r a r2 (by rw [← hR2]; exact h)).1; simp only [List.length_cons] at hl; omega)
    rw [hq] at HIS
    generalize t.s = S at c1 HAI
    clear hK hB hk hab0 hn hl hres hq H hv hR2
    go_enter Tryz.func81, Tryz.ntmps81
    go_upto_region 4 with (fail)
    generalize ((w.alloc (.cells #[.string ⟨#[]⟩, .float .f64 0, .string ⟨#[]⟩, .slice none 0 0, .slice none 0 0, .bool false] 59)).alloc (.cells #[.int .u8 115, .string (tx S)] 76)) = W1 at HAI ⊢
    obtain ⟨p0, p1⟩ := HAI.out.cells
    have hlt := HAI.out.lt
    have HIS2 := Lib.hid (HIS.out W1 HAI.out.toks)
    clear c0 c1 HIS
    go_wp2_with (first | (go_at_call 62; refine (HIS2.out).mono ?_; rintro e w5 ⟨rfl, rfl⟩) | (go_at_call 22; fail))
    go_at_call 22
    refine (HC.out W1 (by have := HB.out; omega) (HSL.out W1 HAI.out.toks)).mono ?_
    rintro e w5 ⟨hb5, v5, rfl, o5, n5, s5, x5, l5, c5, y5, m5, d5, bad5, t5, rfl, hnode5, hcase5⟩
    have hal5 : Below w5.heap.size w5 (w5.alloc (.cells #[.string o5, .float .f64 n5, .string s5, .slice x5 l5 c5, .slice y5 m5 d5, .bool bad5] 59)) := (Below.refl _ _).alloc (Nat.le_refl _) _
    have HI7 := Lib.hid ((HAI.out.below HB.out hb5).below HB.out hal5)
    have HG7 : Hid (RB (w5.alloc (.cells #[.string o5, .float .f64 n5, .string s5, .slice x5 l5 c5, .slice y5 m5 d5, .bool bad5] 59)) w5.heap.size _ _ _ _ _ _) := Lib.hid (heap_alloc_new _ _)
    have hsz5 := hb5.size
    have HN7 := Lib.hid ((hnode5.sub (B := fun b => w.heap.size + 1 ≤ b) (fun b h1 _ => by have h3 : W1.heap.size ≤ b := h1; show w.heap.size + 1 ≤ b; omega)).below hal5)
    have hlt5 : w.heap.size + 1 < w5.heap.size := by omega
    have HBAD : Hid (∀ (Q : Prop), (bad5 = true → res = none → Q) → (∀ ts2, bad5 = false → TokV B (w5.alloc (.cells #[.string o5, .float .f64 n5, .string s5, .slice x5 l5 c5, .slice y5 m5 d5, .bool bad5] 59)) (.slice y5 m5 d5) ts2 → KOk ts2 → ts2.length ≤ 1000000 → res = (if isTok ts2 4 [41] = true then some (t5, ts2.tail) else none) → Q) → Q) := Lib.hid (fun Q h1 h2 => by
      rcases hcase5 with ⟨h3, h4⟩ | ⟨h3, ts2, h4, h5, h6⟩
      · exact h1 h3 (by rw [HRE.out, h4]; rfl)
      · exact h2 ts2 h3 (h5.below hal5 (by have := HB.out; omega)) h6 (HLN.out _ _ h4) (by rw [HRE.out, h4]; rfl))
    clear hcase5 hnode5 hal5 hb5 HAI HC HIS2 HRE HLN HSL
    refine HBAD.out _ (fun h1 h2 => ?_) (fun ts2 h1 h2 h3 h4 h5 => ?_)
    · subst h1
      have HRN := Lib.hid h2
      clear h2 HBAD HN7
      go_wp2_with (first | (go_at_call 94; fail))
      go_at_call 94
      refine (rbad B _).mono ?_
      rintro e w6 ⟨hb6, v6, rfl, hv6⟩
      obtain ⟨hz, o, nn, s, x2, l, c, y, m, d, bad, rfl, hend⟩ := rpass HB.out HI7.out.res HI7.out.bel hb6 hv6
      have HE := Lib.hid hend
      obtain ⟨k0, k1, k2, k3, k4, k5⟩ := hz.cells
      have HZ := Lib.hid hz
      have f0 := hz.fr 0
      have f1 := hz.fr 1
      have f2 := hz.fr 2
      have f3 := hz.fr 3
      have f4 := hz.fr 4
      have f5 := hz.fr 5
      clear hz hend hb6 hv6 HI7
      go_wp2
      rw [HRN.out]
      exact bodyPost_ret (read_node _ rfl _ _ w.heap.size _ _ _ _ _ _ rfl HZ.out.put) rfl HE.out
    · subst h1
      have HT7 := Lib.hid h2
      have HK7 := Lib.hid h3
      have HIS7 := Lib.hid (ris B _ ts2 4 (.inr rfl) [41] h3 h4 _ h2)
      have HRE := Lib.hid h5
      clear h2 h3 h4 h5 HBAD
      cases hq : isTok ts2 4 [41]
      · have HRN : Hid (res = none) := Lib.hid (by rw [HRE.out, hq]; rfl)
        rw [hq] at HIS7
        clear hq HRE HN7
        go_wp2_with (first | (go_at_call 62; refine (HIS7.out).mono ?_; rintro e w8 ⟨rfl, rfl⟩) | (go_at_call 94; fail))
        go_at_call 94
        refine (rbad B _).mono ?_
        rintro e w6 ⟨hb6, v6, rfl, hv6⟩
        obtain ⟨hz, o, nn, s, x2, l, c, y, m, d, bad, rfl, hend⟩ := rpass HB.out HI7.out.res HI7.out.bel hb6 hv6
        have HE := Lib.hid hend
        obtain ⟨k0, k1, k2, k3, k4, k5⟩ := hz.cells
        have HZ := Lib.hid hz
        have f0 := hz.fr 0
        have f1 := hz.fr 1
        have f2 := hz.fr 2
        have f3 := hz.fr 3
        have f4 := hz.fr 4
        have f5 := hz.fr 5
        clear hz hend hb6 hv6 HI7
        go_wp2
        rw [HRN.out]
        exact bodyPost_ret (read_node _ rfl _ _ w.heap.size _ _ _ _ _ _ rfl HZ.out.put) rfl HE.out
      · obtain ⟨t2, r2, rfl⟩ : ∃ t r, ts2 = t :: r := by
          cases ts2 with
          | nil => cases hq
          | cons t r => exact ⟨t, r, rfl⟩
        have HRS : Hid (res = some (t5, r2)) := Lib.hid (by rw [HRE.out, if_pos hq]; rfl)
        rw [hq] at HIS7
        obtain ⟨y8, m8, d8, hsl8, hts8⟩ := tok_slice HT7.out
        have HE := Lib.hid (node_end HB.out HI7.out.res HI7.out.bel HN7.out hts8 HK7.out.tail)
        rw [← HRS.out] at HE
        clear hq HRE hts8 HT7 HK7 HRS
        go_wp2_with (first | (go_at_call 62; refine (HIS7.out).mono ?_; rintro e w8 ⟨rfl, rfl⟩))
        generalize (w5.alloc (.cells #[.string o5, .float .f64 n5, .string s5, .slice x5 l5 c5, .slice y5 m5 d5, .bool false] 59)) = W7 at HI7 HG7 HE ⊢
        generalize w5.heap.size = g7 at HG7 hlt5 ⊢
        obtain ⟨e0, e1, e2, e3, e4, e5⟩ := HG7.out.cells
        obtain ⟨k0, k1, k2, k3, k4, k5⟩ := HI7.out.res.cells
        have f0 := HI7.out.res.fr 0
        have f1 := HI7.out.res.fr 1
        have f2 := HI7.out.res.fr 2
        have f3 := HI7.out.res.fr 3
        have f4 := HI7.out.res.fr 4
        have f5 := HI7.out.res.fr 5
        clear HI7 HG7 HIS7 HN7
        go_region
        go_wp2
        exact bodyPost_ret (read_node _ rfl _ _ w.heap.size _ _ _ _ _ _ rfl HE.out.1) rfl HE.out.2
end Go.Proofs.YtmhfnpabgkkjaaaGreat
/- Walks: the reference's atom: a word (printed by gen_ri.py). -/
namespace Go.Proofs.YtmhfnpabgkkjaaaGreat
open Go.RowKit Go.Shelf
attribute [local go_sem] run_store_float
theorem REnd.drew {B : Nat} {res : Option (Tree × List Tok)} {w W : World} {e : Ending} (h : REnd B res w e W) : REnd B res w e W.drew := by
  obtain ⟨hb, v, he, o, n, s, x, l, c', y, m, d, bad, t, hv, hn, hc⟩ := h
  refine ⟨hb.drew, v, he, o, n, s, x, l, c', y, m, d, bad, t, hv, hn.drew, ?_⟩
  rcases hc with h1 | ⟨h1, ts, h3, h4, h5⟩
  · exact .inl h1
  · exact .inr ⟨h1, ts, h3, h4.drew, h5⟩
set_option maxRecDepth 100000 in
set_option maxHeartbeats 8000000 in
theorem ratom_w0 (B n : Nat) (t : Tok) (r : List Tok) (hk : t.k = 2) (ho : t.s = wor) (v : Value) (w : World) (hl : (t :: r).length ≤ 1000000) (hB : B ≤ w.heap.size) (hK : KOk (t :: r)) (hv : TokV B w v (t :: r)) : Calls Tryz.prog 81 #[v] w (REnd B (P valV true (n + 1) .atom (t :: r)) w) := by
  have HRN : Hid (P valV true (n + 1) .atom (t :: r) = none) := Lib.hid (by rw [atom_word n t r hk, if_pos (by rw [ho]; decide)])
  obtain ⟨res, hres⟩ : ∃ y, y = P valV true (n + 1) .atom (t :: r) := ⟨_, rfl⟩
  rw [← hres] at HRN ⊢
  have HAI := Lib.hid (AI.start (K := 119) (S := t.s) hv hB)
  have HB := Lib.hid hB
  have HIS := Lib.hid (fun W (h : TokV B W v (t :: r)) => ris B v (t :: r) 4 (.inr rfl) [40] hK hl W h)
  have hq : isTok (t :: r) 4 [40] = false := by simp [isTok, hk]
  rw [hq] at HIS
  have HK := Lib.hid hK.tail
  obtain ⟨x, tn, tc, rfl⟩ := hv.agg
  obtain ⟨hpos, a, rfl, hab0, c0, c1⟩ := tok_first hv
  have hab : a.block < w.heap.size := by omega
  have q3 : ((tn : Int) == 0) = false := by simp; omega
  rw [hk, show kd 2 = 119 from rfl] at c0
  obtain ⟨y2, m2, d2, hsl, _⟩ := tok_slice hv
  have HSL : Hid (∀ W, TokV B W (.slice (some a) tn tc) (t :: r) → TokV B W (.slice y2 m2 d2) r) := Lib.hid (fun W hW => by
    obtain ⟨y3, m3, d3, h1, h2⟩ := tok_slice hW
    have h3 := (hsl W).symm.trans (h1 W)
    cases h3
    exact h2)
  have b0 : ((tx t.s).toList == [111, 114]) = true := by rw [ho]; exact tx_same _
  clear hres hK hB hk hab0 hl hq ho hv
  generalize t.s = S at c1 HAI b0
  go_enter Tryz.func81, Tryz.ntmps81
  go_upto_region 4 with (fail)
  generalize ((w.alloc (.cells #[.string ⟨#[]⟩, .float .f64 0, .string ⟨#[]⟩, .slice none 0 0, .slice none 0 0, .bool false] 59)).alloc (.cells #[.int .u8 119, .string (tx S)] 76)) = W1 at HAI ⊢
  obtain ⟨p0, p1⟩ := HAI.out.cells
  have hlt := HAI.out.lt
  have HIS2 := Lib.hid (HIS.out W1 HAI.out.toks)
  clear c0 c1 HIS
  go_wp2_with (first | (go_at_call 62; refine (HIS2.out).mono ?_; rintro e w5 ⟨rfl, rfl⟩) | (go_at_call 94; fail))
  go_at_call 94
  refine (rbad B _).mono ?_
  rintro e w6 ⟨hb6, v6, rfl, hv6⟩
  obtain ⟨hz, o, nn, s, x2, l, c, y, m, d, bad, rfl, hend⟩ := rpass HB.out HAI.out.res HAI.out.bel hb6 hv6
  have HE := Lib.hid hend
  obtain ⟨k0, k1, k2, k3, k4, k5⟩ := hz.cells
  have HZ := Lib.hid hz
  have f0 := hz.fr 0
  have f1 := hz.fr 1
  have f2 := hz.fr 2
  have f3 := hz.fr 3
  have f4 := hz.fr 4
  have f5 := hz.fr 5
  clear hz hend hb6 hv6 HAI HIS2
  go_wp2
  rw [HRN.out]
  exact bodyPost_ret (read_node _ rfl _ _ w.heap.size _ _ _ _ _ _ rfl HZ.out.put) rfl HE.out
set_option maxRecDepth 100000 in
set_option maxHeartbeats 8000000 in
theorem ratom_w1 (B n : Nat) (t : Tok) (r : List Tok) (hk : t.k = 2) (ho : t.s = wand) (v : Value) (w : World) (hl : (t :: r).length ≤ 1000000) (hB : B ≤ w.heap.size) (hK : KOk (t :: r)) (hv : TokV B w v (t :: r)) : Calls Tryz.prog 81 #[v] w (REnd B (P valV true (n + 1) .atom (t :: r)) w) := by
  have HRN : Hid (P valV true (n + 1) .atom (t :: r) = none) := Lib.hid (by rw [atom_word n t r hk, if_pos (by rw [ho]; decide)])
  obtain ⟨res, hres⟩ : ∃ y, y = P valV true (n + 1) .atom (t :: r) := ⟨_, rfl⟩
  rw [← hres] at HRN ⊢
  have HAI := Lib.hid (AI.start (K := 119) (S := t.s) hv hB)
  have HB := Lib.hid hB
  have HIS := Lib.hid (fun W (h : TokV B W v (t :: r)) => ris B v (t :: r) 4 (.inr rfl) [40] hK hl W h)
  have hq : isTok (t :: r) 4 [40] = false := by simp [isTok, hk]
  rw [hq] at HIS
  have HK := Lib.hid hK.tail
  obtain ⟨x, tn, tc, rfl⟩ := hv.agg
  obtain ⟨hpos, a, rfl, hab0, c0, c1⟩ := tok_first hv
  have hab : a.block < w.heap.size := by omega
  have q3 : ((tn : Int) == 0) = false := by simp; omega
  rw [hk, show kd 2 = 119 from rfl] at c0
  obtain ⟨y2, m2, d2, hsl, _⟩ := tok_slice hv
  have HSL : Hid (∀ W, TokV B W (.slice (some a) tn tc) (t :: r) → TokV B W (.slice y2 m2 d2) r) := Lib.hid (fun W hW => by
    obtain ⟨y3, m3, d3, h1, h2⟩ := tok_slice hW
    have h3 := (hsl W).symm.trans (h1 W)
    cases h3
    exact h2)
  have b0 : ((tx t.s).toList == [111, 114]) = false := tx_ne (by rw [ho]; decide)
  have b1 : ((tx t.s).toList == [97, 110, 100]) = true := by rw [ho]; exact tx_same _
  clear hres hK hB hk hab0 hl hq ho hv
  generalize t.s = S at c1 HAI b0 b1
  go_enter Tryz.func81, Tryz.ntmps81
  go_upto_region 4 with (fail)
  generalize ((w.alloc (.cells #[.string ⟨#[]⟩, .float .f64 0, .string ⟨#[]⟩, .slice none 0 0, .slice none 0 0, .bool false] 59)).alloc (.cells #[.int .u8 119, .string (tx S)] 76)) = W1 at HAI ⊢
  obtain ⟨p0, p1⟩ := HAI.out.cells
  have hlt := HAI.out.lt
  have HIS2 := Lib.hid (HIS.out W1 HAI.out.toks)
  clear c0 c1 HIS
  go_wp2_with (first | (go_at_call 62; refine (HIS2.out).mono ?_; rintro e w5 ⟨rfl, rfl⟩) | (go_at_call 94; fail))
  go_at_call 94
  refine (rbad B _).mono ?_
  rintro e w6 ⟨hb6, v6, rfl, hv6⟩
  obtain ⟨hz, o, nn, s, x2, l, c, y, m, d, bad, rfl, hend⟩ := rpass HB.out HAI.out.res HAI.out.bel hb6 hv6
  have HE := Lib.hid hend
  obtain ⟨k0, k1, k2, k3, k4, k5⟩ := hz.cells
  have HZ := Lib.hid hz
  have f0 := hz.fr 0
  have f1 := hz.fr 1
  have f2 := hz.fr 2
  have f3 := hz.fr 3
  have f4 := hz.fr 4
  have f5 := hz.fr 5
  clear hz hend hb6 hv6 HAI HIS2
  go_wp2
  rw [HRN.out]
  exact bodyPost_ret (read_node _ rfl _ _ w.heap.size _ _ _ _ _ _ rfl HZ.out.put) rfl HE.out
set_option maxRecDepth 100000 in
set_option maxHeartbeats 8000000 in
theorem ratom_w2 (B n : Nat) (t : Tok) (r : List Tok) (hk : t.k = 2) (ho : t.s = wnot) (v : Value) (w : World) (hl : (t :: r).length ≤ 1000000) (hB : B ≤ w.heap.size) (hK : KOk (t :: r)) (hv : TokV B w v (t :: r)) : Calls Tryz.prog 81 #[v] w (REnd B (P valV true (n + 1) .atom (t :: r)) w) := by
  have HRN : Hid (P valV true (n + 1) .atom (t :: r) = none) := Lib.hid (by rw [atom_word n t r hk, if_pos (by rw [ho]; decide)])
  obtain ⟨res, hres⟩ : ∃ y, y = P valV true (n + 1) .atom (t :: r) := ⟨_, rfl⟩
  rw [← hres] at HRN ⊢
  have HAI := Lib.hid (AI.start (K := 119) (S := t.s) hv hB)
  have HB := Lib.hid hB
  have HIS := Lib.hid (fun W (h : TokV B W v (t :: r)) => ris B v (t :: r) 4 (.inr rfl) [40] hK hl W h)
  have hq : isTok (t :: r) 4 [40] = false := by simp [isTok, hk]
  rw [hq] at HIS
  have HK := Lib.hid hK.tail
  obtain ⟨x, tn, tc, rfl⟩ := hv.agg
  obtain ⟨hpos, a, rfl, hab0, c0, c1⟩ := tok_first hv
  have hab : a.block < w.heap.size := by omega
  have q3 : ((tn : Int) == 0) = false := by simp; omega
  rw [hk, show kd 2 = 119 from rfl] at c0
  obtain ⟨y2, m2, d2, hsl, _⟩ := tok_slice hv
  have HSL : Hid (∀ W, TokV B W (.slice (some a) tn tc) (t :: r) → TokV B W (.slice y2 m2 d2) r) := Lib.hid (fun W hW => by
    obtain ⟨y3, m3, d3, h1, h2⟩ := tok_slice hW
    have h3 := (hsl W).symm.trans (h1 W)
    cases h3
    exact h2)
  have b0 : ((tx t.s).toList == [111, 114]) = false := tx_ne (by rw [ho]; decide)
  have b1 : ((tx t.s).toList == [97, 110, 100]) = false := tx_ne (by rw [ho]; decide)
  have b2 : ((tx t.s).toList == [110, 111, 116]) = true := by rw [ho]; exact tx_same _
  clear hres hK hB hk hab0 hl hq ho hv
  generalize t.s = S at c1 HAI b0 b1 b2
  go_enter Tryz.func81, Tryz.ntmps81
  go_upto_region 4 with (fail)
  generalize ((w.alloc (.cells #[.string ⟨#[]⟩, .float .f64 0, .string ⟨#[]⟩, .slice none 0 0, .slice none 0 0, .bool false] 59)).alloc (.cells #[.int .u8 119, .string (tx S)] 76)) = W1 at HAI ⊢
  obtain ⟨p0, p1⟩ := HAI.out.cells
  have hlt := HAI.out.lt
  have HIS2 := Lib.hid (HIS.out W1 HAI.out.toks)
  clear c0 c1 HIS
  go_wp2_with (first | (go_at_call 62; refine (HIS2.out).mono ?_; rintro e w5 ⟨rfl, rfl⟩) | (go_at_call 94; fail))
  go_at_call 94
  refine (rbad B _).mono ?_
  rintro e w6 ⟨hb6, v6, rfl, hv6⟩
  obtain ⟨hz, o, nn, s, x2, l, c, y, m, d, bad, rfl, hend⟩ := rpass HB.out HAI.out.res HAI.out.bel hb6 hv6
  have HE := Lib.hid hend
  obtain ⟨k0, k1, k2, k3, k4, k5⟩ := hz.cells
  have HZ := Lib.hid hz
  have f0 := hz.fr 0
  have f1 := hz.fr 1
  have f2 := hz.fr 2
  have f3 := hz.fr 3
  have f4 := hz.fr 4
  have f5 := hz.fr 5
  clear hz hend hb6 hv6 HAI HIS2
  go_wp2
  rw [HRN.out]
  exact bodyPost_ret (read_node _ rfl _ _ w.heap.size _ _ _ _ _ _ rfl HZ.out.put) rfl HE.out
set_option maxRecDepth 100000 in
set_option maxHeartbeats 8000000 in
theorem ratom_w3 (B n : Nat) (H : RC B 22 0 .or 11 n) (t : Tok) (r : List Tok) (hk : t.k = 2) (ho : t.s = wlen) (v : Value) (w : World) (hn : 12 * (t :: r).length + 1 ≤ n + 1) (hl : (t :: r).length ≤ 1000000) (hB : B ≤ w.heap.size) (hK : KOk (t :: r)) (hv : TokV B w v (t :: r)) : Calls Tryz.prog 81 #[v] w (REnd B (P valV true (n + 1) .atom (t :: r)) w) := by
  have HRN : Hid (P valV true (n + 1) .atom (t :: r) = closeP t.s [] (argsP (P valV true n .or) 1 [40] r)) := Lib.hid (by rw [atom_word n t r hk, if_neg (by rw [ho]; decide), if_pos (by rw [ho]; decide)])
  obtain ⟨res, hres⟩ : ∃ y, y = P valV true (n + 1) .atom (t :: r) := ⟨_, rfl⟩
  rw [← hres] at HRN ⊢
  have HCL := Lib.hid (fun W v1 (hb : B ≤ W.heap.size) (ht : TokV B W v1 r) => rcall B n H t.s 1 (by omega) r v1 W (by simp only [List.length_cons] at hn; omega) (by simp only [List.length_cons] at hl; omega) hb hK.tail ht)
  rw [← HRN.out] at HCL
  have HAI := Lib.hid (AI.start (K := 119) (S := t.s) hv hB)
  have HB := Lib.hid hB
  have HIS := Lib.hid (fun W (h : TokV B W v (t :: r)) => ris B v (t :: r) 4 (.inr rfl) [40] hK hl W h)
  have hq : isTok (t :: r) 4 [40] = false := by simp [isTok, hk]
  rw [hq] at HIS
  have HK := Lib.hid hK.tail
  obtain ⟨x, tn, tc, rfl⟩ := hv.agg
  obtain ⟨hpos, a, rfl, hab0, c0, c1⟩ := tok_first hv
  have hab : a.block < w.heap.size := by omega
  have q3 : ((tn : Int) == 0) = false := by simp; omega
  rw [hk, show kd 2 = 119 from rfl] at c0
  obtain ⟨y2, m2, d2, hsl, _⟩ := tok_slice hv
  have HSL : Hid (∀ W, TokV B W (.slice (some a) tn tc) (t :: r) → TokV B W (.slice y2 m2 d2) r) := Lib.hid (fun W hW => by
    obtain ⟨y3, m3, d3, h1, h2⟩ := tok_slice hW
    have h3 := (hsl W).symm.trans (h1 W)
    cases h3
    exact h2)
  have b0 : ((tx t.s).toList == [111, 114]) = false := tx_ne (by rw [ho]; decide)
  have b1 : ((tx t.s).toList == [97, 110, 100]) = false := tx_ne (by rw [ho]; decide)
  have b2 : ((tx t.s).toList == [110, 111, 116]) = false := tx_ne (by rw [ho]; decide)
  have b3 : ((tx t.s).toList == [108, 101, 110]) = true := by rw [ho]; exact tx_same _
  clear HRN
  clear hres hK hB hk hab0 hl hq ho hv H hn
  generalize t.s = S at c1 HAI HCL b0 b1 b2 b3
  go_enter Tryz.func81, Tryz.ntmps81
  go_upto_region 4 with (fail)
  generalize ((w.alloc (.cells #[.string ⟨#[]⟩, .float .f64 0, .string ⟨#[]⟩, .slice none 0 0, .slice none 0 0, .bool false] 59)).alloc (.cells #[.int .u8 119, .string (tx S)] 76)) = W1 at HAI ⊢
  obtain ⟨p0, p1⟩ := HAI.out.cells
  have hlt := HAI.out.lt
  have HIS2 := Lib.hid (HIS.out W1 HAI.out.toks)
  clear c0 c1 HIS
  go_wp2_with (first | (go_at_call 62; refine (HIS2.out).mono ?_; rintro e w5 ⟨rfl, rfl⟩))
  have HS0 : Hid (W1.drew.cell? ⟨w.heap.size + 1, 1, none⟩ = some (.string (tx S))) := Lib.hid p1
  refine wp_region_held (S := (fun w' => w'.cell? ⟨w.heap.size + 1, 1, none⟩ = some (.string (tx S)))) (by kernel_rfl) ?_
  change wpAnyH _ _ _ _ _ _ _ _ (World.drew _)
  refine wpAnyH_take (i := 0) (v := _) rfl (by kernel_rfl) (by kernel_rfl) (by kernel_rfl) (fun _ _ _ h => h) (Or.inl ⟨by rfl, by intro w hSw; (try dsimp only at hSw); go_simp; try (with_reducible rfl)⟩) HS0.out ?_
  try simp only [Act.put, List.setIfInBounds_toArray]
  refine wpAnyH_take (i := 1) (v := _) rfl (by kernel_rfl) (by kernel_rfl) (by kernel_rfl) (fun _ _ _ h => h) (Or.inl ⟨by rfl, by intro w hSw; (try dsimp only at hSw); go_simp; try (with_reducible rfl)⟩) HS0.out ?_
  try simp only [Act.put]
  refine wpAnyH_take (i := 2) (v := _) rfl (by kernel_rfl) (by kernel_rfl) (by kernel_rfl) (fun _ _ _ h => h) (Or.inl ⟨by rfl, by intro w hSw; (try dsimp only at hSw); go_simp; try (with_reducible rfl)⟩) HS0.out ?_
  try simp only [Act.put]
  refine wpAnyH_take (i := 3) (v := _) rfl (by kernel_rfl) (by kernel_rfl) (by kernel_rfl) (fun _ _ _ h => h) (Or.inl ⟨by rfl, by intro w hSw; (try dsimp only at hSw); go_simp; try (with_reducible rfl)⟩) HS0.out ?_
  try simp only [Act.put]
  refine wpAnyH_ready (rs := [4]) (by kernel_rfl) (by simp) ?_
  refine AllReadyH.cons rfl (fun K hK => ?_) AllReadyH.nil
  go_simp
  go_wp2_with (first | (go_at_call 96; fail))
  refine (HCL.out W1.drew _ (by have := HB.out; show B ≤ W1.heap.size; omega) (HSL.out _ HAI.out.toks.drew)).mono ?_
  rintro e w6 ⟨hb6, v6, rfl, hv6⟩
  obtain ⟨hz, o, nn, s, x2, l, c, y, m, d, bad, rfl, hend⟩ := rpass HB.out HAI.out.res.drew HAI.out.bel.drew hb6 hv6
  have HS6 : Hid (w6.cell? ⟨w.heap.size + 1, 1, none⟩ = some (.string (tx S))) := Lib.hid ((AI.below HAI.out HB.out ((Below.refl _ _).drew.trans hb6)).cells.2)
  have HS7 : Hid ((putR w6 w.heap.size (.string o) (.float .f64 nn) (.string s) (.slice x2 l c) (.slice y m d) (.bool bad)).cell? ⟨w.heap.size + 1, 1, none⟩ = some (.string (tx S))) := Lib.hid (cell_same (putR_other (by show w.heap.size + 1 ≠ w.heap.size; omega)) HS6.out)
  have HE := Lib.hid hend
  obtain ⟨k0, k1, k2, k3, k4, k5⟩ := hz.cells
  have HZ := Lib.hid hz
  have f0 := hz.fr 0
  have f1 := hz.fr 1
  have f2 := hz.fr 2
  have f3 := hz.fr 3
  have f4 := hz.fr 4
  have f5 := hz.fr 5
  clear hz hend hb6 hv6 HAI HIS2
  refine hK.out _ _ HS6.out (fun _ => ?_)
  clear hK K
  try simp only [Act.put, List.setIfInBounds_toArray, List.set_cons_zero, List.set_cons_succ]
  refine wpAnyH_ready (rs := [5]) (by kernel_rfl) (by simp) ?_
  refine AllReadyH.cons rfl (fun K hK => ?_) AllReadyH.nil
  go_simp
  refine hK.out _ _ HS7.out (fun _ => ?_)
  clear hK K
  try simp only [Act.put, List.setIfInBounds_toArray, List.set_cons_zero, List.set_cons_succ]
  refine wpAnyH_done (by kernel_rfl) ?_ _
  go_wp2
  exact bodyPost_ret (read_node _ rfl _ _ w.heap.size _ _ _ _ _ _ rfl HZ.out.put) rfl HE.out
set_option maxRecDepth 100000 in
set_option maxHeartbeats 8000000 in
theorem ratom_w4 (B n : Nat) (H : RC B 22 0 .or 11 n) (t : Tok) (r : List Tok) (hk : t.k = 2) (ho : t.s = wabs) (v : Value) (w : World) (hn : 12 * (t :: r).length + 1 ≤ n + 1) (hl : (t :: r).length ≤ 1000000) (hB : B ≤ w.heap.size) (hK : KOk (t :: r)) (hv : TokV B w v (t :: r)) : Calls Tryz.prog 81 #[v] w (REnd B (P valV true (n + 1) .atom (t :: r)) w) := by
  have HRN : Hid (P valV true (n + 1) .atom (t :: r) = closeP t.s [] (argsP (P valV true n .or) 1 [40] r)) := Lib.hid (by rw [atom_word n t r hk, if_neg (by rw [ho]; decide), if_pos (by rw [ho]; decide)])
  obtain ⟨res, hres⟩ : ∃ y, y = P valV true (n + 1) .atom (t :: r) := ⟨_, rfl⟩
  rw [← hres] at HRN ⊢
  have HCL := Lib.hid (fun W v1 (hb : B ≤ W.heap.size) (ht : TokV B W v1 r) => rcall B n H t.s 1 (by omega) r v1 W (by simp only [List.length_cons] at hn; omega) (by simp only [List.length_cons] at hl; omega) hb hK.tail ht)
  rw [← HRN.out] at HCL
  have HAI := Lib.hid (AI.start (K := 119) (S := t.s) hv hB)
  have HB := Lib.hid hB
  have HIS := Lib.hid (fun W (h : TokV B W v (t :: r)) => ris B v (t :: r) 4 (.inr rfl) [40] hK hl W h)
  have hq : isTok (t :: r) 4 [40] = false := by simp [isTok, hk]
  rw [hq] at HIS
  have HK := Lib.hid hK.tail
  obtain ⟨x, tn, tc, rfl⟩ := hv.agg
  obtain ⟨hpos, a, rfl, hab0, c0, c1⟩ := tok_first hv
  have hab : a.block < w.heap.size := by omega
  have q3 : ((tn : Int) == 0) = false := by simp; omega
  rw [hk, show kd 2 = 119 from rfl] at c0
  obtain ⟨y2, m2, d2, hsl, _⟩ := tok_slice hv
  have HSL : Hid (∀ W, TokV B W (.slice (some a) tn tc) (t :: r) → TokV B W (.slice y2 m2 d2) r) := Lib.hid (fun W hW => by
    obtain ⟨y3, m3, d3, h1, h2⟩ := tok_slice hW
    have h3 := (hsl W).symm.trans (h1 W)
    cases h3
    exact h2)
  have b0 : ((tx t.s).toList == [111, 114]) = false := tx_ne (by rw [ho]; decide)
  have b1 : ((tx t.s).toList == [97, 110, 100]) = false := tx_ne (by rw [ho]; decide)
  have b2 : ((tx t.s).toList == [110, 111, 116]) = false := tx_ne (by rw [ho]; decide)
  have b3 : ((tx t.s).toList == [108, 101, 110]) = false := tx_ne (by rw [ho]; decide)
  have b4 : ((tx t.s).toList == [97, 98, 115]) = true := by rw [ho]; exact tx_same _
  clear HRN
  clear hres hK hB hk hab0 hl hq ho hv H hn
  generalize t.s = S at c1 HAI HCL b0 b1 b2 b3 b4
  go_enter Tryz.func81, Tryz.ntmps81
  go_upto_region 4 with (fail)
  generalize ((w.alloc (.cells #[.string ⟨#[]⟩, .float .f64 0, .string ⟨#[]⟩, .slice none 0 0, .slice none 0 0, .bool false] 59)).alloc (.cells #[.int .u8 119, .string (tx S)] 76)) = W1 at HAI ⊢
  obtain ⟨p0, p1⟩ := HAI.out.cells
  have hlt := HAI.out.lt
  have HIS2 := Lib.hid (HIS.out W1 HAI.out.toks)
  clear c0 c1 HIS
  go_wp2_with (first | (go_at_call 62; refine (HIS2.out).mono ?_; rintro e w5 ⟨rfl, rfl⟩))
  have HS0 : Hid (W1.drew.cell? ⟨w.heap.size + 1, 1, none⟩ = some (.string (tx S))) := Lib.hid p1
  refine wp_region_held (S := (fun w' => w'.cell? ⟨w.heap.size + 1, 1, none⟩ = some (.string (tx S)))) (by kernel_rfl) ?_
  change wpAnyH _ _ _ _ _ _ _ _ (World.drew _)
  refine wpAnyH_take (i := 0) (v := _) rfl (by kernel_rfl) (by kernel_rfl) (by kernel_rfl) (fun _ _ _ h => h) (Or.inl ⟨by rfl, by intro w hSw; (try dsimp only at hSw); go_simp; try (with_reducible rfl)⟩) HS0.out ?_
  try simp only [Act.put, List.setIfInBounds_toArray]
  refine wpAnyH_take (i := 1) (v := _) rfl (by kernel_rfl) (by kernel_rfl) (by kernel_rfl) (fun _ _ _ h => h) (Or.inl ⟨by rfl, by intro w hSw; (try dsimp only at hSw); go_simp; try (with_reducible rfl)⟩) HS0.out ?_
  try simp only [Act.put]
  refine wpAnyH_take (i := 2) (v := _) rfl (by kernel_rfl) (by kernel_rfl) (by kernel_rfl) (fun _ _ _ h => h) (Or.inl ⟨by rfl, by intro w hSw; (try dsimp only at hSw); go_simp; try (with_reducible rfl)⟩) HS0.out ?_
  try simp only [Act.put]
  refine wpAnyH_take (i := 3) (v := _) rfl (by kernel_rfl) (by kernel_rfl) (by kernel_rfl) (fun _ _ _ h => h) (Or.inl ⟨by rfl, by intro w hSw; (try dsimp only at hSw); go_simp; try (with_reducible rfl)⟩) HS0.out ?_
  try simp only [Act.put]
  refine wpAnyH_ready (rs := [4]) (by kernel_rfl) (by simp) ?_
  refine AllReadyH.cons rfl (fun K hK => ?_) AllReadyH.nil
  go_simp
  go_wp2_with (first | (go_at_call 96; fail))
  refine (HCL.out W1.drew _ (by have := HB.out; show B ≤ W1.heap.size; omega) (HSL.out _ HAI.out.toks.drew)).mono ?_
  rintro e w6 ⟨hb6, v6, rfl, hv6⟩
  obtain ⟨hz, o, nn, s, x2, l, c, y, m, d, bad, rfl, hend⟩ := rpass HB.out HAI.out.res.drew HAI.out.bel.drew hb6 hv6
  have HS6 : Hid (w6.cell? ⟨w.heap.size + 1, 1, none⟩ = some (.string (tx S))) := Lib.hid ((AI.below HAI.out HB.out ((Below.refl _ _).drew.trans hb6)).cells.2)
  have HS7 : Hid ((putR w6 w.heap.size (.string o) (.float .f64 nn) (.string s) (.slice x2 l c) (.slice y m d) (.bool bad)).cell? ⟨w.heap.size + 1, 1, none⟩ = some (.string (tx S))) := Lib.hid (cell_same (putR_other (by show w.heap.size + 1 ≠ w.heap.size; omega)) HS6.out)
  have HE := Lib.hid hend
  obtain ⟨k0, k1, k2, k3, k4, k5⟩ := hz.cells
  have HZ := Lib.hid hz
  have f0 := hz.fr 0
  have f1 := hz.fr 1
  have f2 := hz.fr 2
  have f3 := hz.fr 3
  have f4 := hz.fr 4
  have f5 := hz.fr 5
  clear hz hend hb6 hv6 HAI HIS2
  refine hK.out _ _ HS6.out (fun _ => ?_)
  clear hK K
  try simp only [Act.put, List.setIfInBounds_toArray, List.set_cons_zero, List.set_cons_succ]
  refine wpAnyH_ready (rs := [5]) (by kernel_rfl) (by simp) ?_
  refine AllReadyH.cons rfl (fun K hK => ?_) AllReadyH.nil
  go_simp
  refine hK.out _ _ HS7.out (fun _ => ?_)
  clear hK K
  try simp only [Act.put, List.setIfInBounds_toArray, List.set_cons_zero, List.set_cons_succ]
  refine wpAnyH_done (by kernel_rfl) ?_ _
  go_wp2
  exact bodyPost_ret (read_node _ rfl _ _ w.heap.size _ _ _ _ _ _ rfl HZ.out.put) rfl HE.out
set_option maxRecDepth 100000 in
set_option maxHeartbeats 8000000 in
theorem ratom_w5 (B n : Nat) (H : RC B 22 0 .or 11 n) (t : Tok) (r : List Tok) (hk : t.k = 2) (ho : t.s = whas) (v : Value) (w : World) (hn : 12 * (t :: r).length + 1 ≤ n + 1) (hl : (t :: r).length ≤ 1000000) (hB : B ≤ w.heap.size) (hK : KOk (t :: r)) (hv : TokV B w v (t :: r)) : Calls Tryz.prog 81 #[v] w (REnd B (P valV true (n + 1) .atom (t :: r)) w) := by
  have HRN : Hid (P valV true (n + 1) .atom (t :: r) = closeP t.s [] (argsP (P valV true n .or) 2 [40] r)) := Lib.hid (by rw [atom_word n t r hk, if_neg (by rw [ho]; decide), if_neg (by rw [ho]; decide), if_pos ho, ho])
  obtain ⟨res, hres⟩ : ∃ y, y = P valV true (n + 1) .atom (t :: r) := ⟨_, rfl⟩
  rw [← hres] at HRN ⊢
  have HCL := Lib.hid (fun W v1 (hb : B ≤ W.heap.size) (ht : TokV B W v1 r) => rcall B n H t.s 2 (by omega) r v1 W (by simp only [List.length_cons] at hn; omega) (by simp only [List.length_cons] at hl; omega) hb hK.tail ht)
  rw [← HRN.out] at HCL
  have HAI := Lib.hid (AI.start (K := 119) (S := t.s) hv hB)
  have HB := Lib.hid hB
  have HIS := Lib.hid (fun W (h : TokV B W v (t :: r)) => ris B v (t :: r) 4 (.inr rfl) [40] hK hl W h)
  have hq : isTok (t :: r) 4 [40] = false := by simp [isTok, hk]
  rw [hq] at HIS
  have HK := Lib.hid hK.tail
  obtain ⟨x, tn, tc, rfl⟩ := hv.agg
  obtain ⟨hpos, a, rfl, hab0, c0, c1⟩ := tok_first hv
  have hab : a.block < w.heap.size := by omega
  have q3 : ((tn : Int) == 0) = false := by simp; omega
  rw [hk, show kd 2 = 119 from rfl] at c0
  obtain ⟨y2, m2, d2, hsl, _⟩ := tok_slice hv
  have HSL : Hid (∀ W, TokV B W (.slice (some a) tn tc) (t :: r) → TokV B W (.slice y2 m2 d2) r) := Lib.hid (fun W hW => by
    obtain ⟨y3, m3, d3, h1, h2⟩ := tok_slice hW
    have h3 := (hsl W).symm.trans (h1 W)
    cases h3
    exact h2)
  have b0 : ((tx t.s).toList == [111, 114]) = false := tx_ne (by rw [ho]; decide)
  have b1 : ((tx t.s).toList == [97, 110, 100]) = false := tx_ne (by rw [ho]; decide)
  have b2 : ((tx t.s).toList == [110, 111, 116]) = false := tx_ne (by rw [ho]; decide)
  have b3 : ((tx t.s).toList == [108, 101, 110]) = false := tx_ne (by rw [ho]; decide)
  have b4 : ((tx t.s).toList == [97, 98, 115]) = false := tx_ne (by rw [ho]; decide)
  have b5 : ((tx t.s).toList == [104, 97, 115]) = true := by rw [ho]; exact tx_same _
  clear HRN
  clear hres hK hB hk hab0 hl hq ho hv H hn
  generalize t.s = S at c1 HAI HCL b0 b1 b2 b3 b4 b5
  go_enter Tryz.func81, Tryz.ntmps81
  go_upto_region 4 with (fail)
  generalize ((w.alloc (.cells #[.string ⟨#[]⟩, .float .f64 0, .string ⟨#[]⟩, .slice none 0 0, .slice none 0 0, .bool false] 59)).alloc (.cells #[.int .u8 119, .string (tx S)] 76)) = W1 at HAI ⊢
  obtain ⟨p0, p1⟩ := HAI.out.cells
  have hlt := HAI.out.lt
  have HIS2 := Lib.hid (HIS.out W1 HAI.out.toks)
  clear c0 c1 HIS
  go_wp2_with (first | (go_at_call 62; refine (HIS2.out).mono ?_; rintro e w5 ⟨rfl, rfl⟩))
  have HS0 : Hid (W1.drew.cell? ⟨w.heap.size + 1, 1, none⟩ = some (.string (tx S))) := Lib.hid p1
  refine wp_region_held (S := (fun w' => w'.cell? ⟨w.heap.size + 1, 1, none⟩ = some (.string (tx S)))) (by kernel_rfl) ?_
  change wpAnyH _ _ _ _ _ _ _ _ (World.drew _)
  refine wpAnyH_take (i := 0) (v := _) rfl (by kernel_rfl) (by kernel_rfl) (by kernel_rfl) (fun _ _ _ h => h) (Or.inl ⟨by rfl, by intro w hSw; (try dsimp only at hSw); go_simp; try (with_reducible rfl)⟩) HS0.out ?_
  try simp only [Act.put, List.setIfInBounds_toArray]
  refine wpAnyH_take (i := 1) (v := _) rfl (by kernel_rfl) (by kernel_rfl) (by kernel_rfl) (fun _ _ _ h => h) (Or.inl ⟨by rfl, by intro w hSw; (try dsimp only at hSw); go_simp; try (with_reducible rfl)⟩) HS0.out ?_
  try simp only [Act.put]
  refine wpAnyH_take (i := 2) (v := _) rfl (by kernel_rfl) (by kernel_rfl) (by kernel_rfl) (fun _ _ _ h => h) (Or.inl ⟨by rfl, by intro w hSw; (try dsimp only at hSw); go_simp; try (with_reducible rfl)⟩) HS0.out ?_
  try simp only [Act.put]
  refine wpAnyH_take (i := 3) (v := _) rfl (by kernel_rfl) (by kernel_rfl) (by kernel_rfl) (fun _ _ _ h => h) (Or.inl ⟨by rfl, by intro w hSw; (try dsimp only at hSw); go_simp; try (with_reducible rfl)⟩) HS0.out ?_
  try simp only [Act.put]
  refine wpAnyH_ready (rs := [4]) (by kernel_rfl) (by simp) ?_
  refine AllReadyH.cons rfl (fun K hK => ?_) AllReadyH.nil
  go_simp
  go_wp2_with (first | (go_at_call 96; fail))
  refine (HCL.out W1.drew _ (by have := HB.out; show B ≤ W1.heap.size; omega) (HSL.out _ HAI.out.toks.drew)).mono ?_
  rintro e w6 ⟨hb6, v6, rfl, hv6⟩
  obtain ⟨hz, o, nn, s, x2, l, c, y, m, d, bad, rfl, hend⟩ := rpass HB.out HAI.out.res.drew HAI.out.bel.drew hb6 hv6
  have HS6 : Hid (w6.cell? ⟨w.heap.size + 1, 1, none⟩ = some (.string (tx S))) := Lib.hid ((AI.below HAI.out HB.out ((Below.refl _ _).drew.trans hb6)).cells.2)
  have HS7 : Hid ((putR w6 w.heap.size (.string o) (.float .f64 nn) (.string s) (.slice x2 l c) (.slice y m d) (.bool bad)).cell? ⟨w.heap.size + 1, 1, none⟩ = some (.string (tx S))) := Lib.hid (cell_same (putR_other (by show w.heap.size + 1 ≠ w.heap.size; omega)) HS6.out)
  have HE := Lib.hid hend
  obtain ⟨k0, k1, k2, k3, k4, k5⟩ := hz.cells
  have HZ := Lib.hid hz
  have f0 := hz.fr 0
  have f1 := hz.fr 1
  have f2 := hz.fr 2
  have f3 := hz.fr 3
  have f4 := hz.fr 4
  have f5 := hz.fr 5
  clear hz hend hb6 hv6 HAI HIS2
  refine hK.out _ _ HS6.out (fun _ => ?_)
  clear hK K
  try simp only [Act.put, List.setIfInBounds_toArray, List.set_cons_zero, List.set_cons_succ]
  refine wpAnyH_ready (rs := [5]) (by kernel_rfl) (by simp) ?_
  refine AllReadyH.cons rfl (fun K hK => ?_) AllReadyH.nil
  go_simp
  refine hK.out _ _ HS7.out (fun _ => ?_)
  clear hK K
  try simp only [Act.put, List.setIfInBounds_toArray, List.set_cons_zero, List.set_cons_succ]
  refine wpAnyH_done (by kernel_rfl) ?_ _
  go_wp2
  exact bodyPost_ret (read_node _ rfl _ _ w.heap.size _ _ _ _ _ _ rfl HZ.out.put) rfl HE.out
set_option maxRecDepth 100000 in
set_option maxHeartbeats 8000000 in
theorem ratom_w6 (B n : Nat) (t : Tok) (r : List Tok) (hk : t.k = 2) (ho : t.s ≠ wor ∧ t.s ≠ wand ∧ t.s ≠ wnot ∧ t.s ≠ wlen ∧ t.s ≠ wabs ∧ t.s ≠ whas) (v : Value) (w : World) (hl : (t :: r).length ≤ 1000000) (hB : B ≤ w.heap.size) (hK : KOk (t :: r)) (hv : TokV B w v (t :: r)) : Calls Tryz.prog 81 #[v] w (REnd B (P valV true (n + 1) .atom (t :: r)) w) := by
  have HRN : Hid (P valV true (n + 1) .atom (t :: r) = some (.mk wname 0 t.s [], r)) := Lib.hid (by rw [atom_word n t r hk, if_neg (fun h => h.elim ho.1 (fun h => h.elim ho.2.1 ho.2.2.1)), if_neg (fun h => h.elim ho.2.2.2.1 ho.2.2.2.2.1), if_neg ho.2.2.2.2.2])
  obtain ⟨res, hres⟩ : ∃ y, y = P valV true (n + 1) .atom (t :: r) := ⟨_, rfl⟩
  rw [← hres] at HRN ⊢
  have HAI := Lib.hid (AI.start (K := 119) (S := t.s) hv hB)
  have HB := Lib.hid hB
  have HIS := Lib.hid (fun W (h : TokV B W v (t :: r)) => ris B v (t :: r) 4 (.inr rfl) [40] hK hl W h)
  have hq : isTok (t :: r) 4 [40] = false := by simp [isTok, hk]
  rw [hq] at HIS
  have HK := Lib.hid hK.tail
  obtain ⟨x, tn, tc, rfl⟩ := hv.agg
  obtain ⟨hpos, a, rfl, hab0, c0, c1⟩ := tok_first hv
  have hab : a.block < w.heap.size := by omega
  have q3 : ((tn : Int) == 0) = false := by simp; omega
  rw [hk, show kd 2 = 119 from rfl] at c0
  obtain ⟨y2, m2, d2, hsl, _⟩ := tok_slice hv
  have HSL : Hid (∀ W, TokV B W (.slice (some a) tn tc) (t :: r) → TokV B W (.slice y2 m2 d2) r) := Lib.hid (fun W hW => by
    obtain ⟨y3, m3, d3, h1, h2⟩ := tok_slice hW
    have h3 := (hsl W).symm.trans (h1 W)
    cases h3
    exact h2)
  have b0 : ((tx t.s).toList == [111, 114]) = false := tx_ne ho.1
  have b1 : ((tx t.s).toList == [97, 110, 100]) = false := tx_ne ho.2.1
  have b2 : ((tx t.s).toList == [110, 111, 116]) = false := tx_ne ho.2.2.1
  have b3 : ((tx t.s).toList == [108, 101, 110]) = false := tx_ne ho.2.2.2.1
  have b4 : ((tx t.s).toList == [97, 98, 115]) = false := tx_ne ho.2.2.2.2.1
  have b5 : ((tx t.s).toList == [104, 97, 115]) = false := tx_ne ho.2.2.2.2.2
  clear hres hK hB hk hab0 hl hq ho hv
  generalize t.s = S at c1 HAI HRN b0 b1 b2 b3 b4 b5
  go_enter Tryz.func81, Tryz.ntmps81
  go_upto_region 4 with (fail)
  generalize ((w.alloc (.cells #[.string ⟨#[]⟩, .float .f64 0, .string ⟨#[]⟩, .slice none 0 0, .slice none 0 0, .bool false] 59)).alloc (.cells #[.int .u8 119, .string (tx S)] 76)) = W1 at HAI ⊢
  obtain ⟨p0, p1⟩ := HAI.out.cells
  have hlt := HAI.out.lt
  have HIS2 := Lib.hid (HIS.out W1 HAI.out.toks)
  have HE := Lib.hid (leaf_end (op := wname) (s := S) (n := 0) HB.out HAI.out.res HAI.out.bel (HSL.out W1 HAI.out.toks) HK.out)
  rw [← HRN.out] at HE
  have hz := HAI.out.res
  obtain ⟨k0, k1, k2, k3, k4, k5⟩ := hz.cells
  have HZ := Lib.hid hz
  have f0 := hz.fr 0
  have f1 := hz.fr 1
  have f2 := hz.fr 2
  have f3 := hz.fr 3
  have f4 := hz.fr 4
  have f5 := hz.fr 5
  clear c0 c1 HIS hz HZ HAI HSL HRN
  go_wp2_with (first | (go_at_call 62; refine (HIS2.out).mono ?_; rintro e w5 ⟨rfl, rfl⟩))
  go_region
  go_wp2
  exact bodyPost_ret (read_node _ rfl _ _ w.heap.size _ _ _ _ _ _ rfl HE.out.1) rfl HE.out.2
end Go.Proofs.YtmhfnpabgkkjaaaGreat
