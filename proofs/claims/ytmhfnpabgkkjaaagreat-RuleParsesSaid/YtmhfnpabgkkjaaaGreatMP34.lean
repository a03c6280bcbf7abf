/- Own texts, merged: RH. -/
import Derived.Test.YtmhfnpabgkkjaaaGreatMP33
/- Walks: the reference's atom: a sign. -/
namespace Go.Proofs.YtmhfnpabgkkjaaaGreat
open Go.RowKit Go.Shelf
attribute [local go_sem] run_store_float
def insR (x : Option (Tree × List Tok)) : Option (Tree × List Tok) := match x with
  | none => none
  | some (a, t2) => if isTok t2 4 [41] = true then some (a, t2.tail) else none
theorem inside_true (R : List Tok → Option (Tree × List Tok)) (ts : List Tok) : inside true R ts = if isTok ts 4 [40] = true then insR (R ts.tail) else none := by
  unfold inside
  rw [must_true]
  cases isTok ts 4 [40]
  · rfl
  · rw [if_pos rfl, if_pos rfl]
    simp only
    cases R ts.tail with
    | none => rfl
    | some x =>
      obtain ⟨a, r⟩ := x
      simp only [must_true, insR]
      cases isTok r 4 [41] <;> rfl
theorem node_end {B : Nat} {w W : World} {o s : ByteArray} {n : Nat} {x : Option Addr} {l c : Nat} {t : Tree} {z0 z1 z2 z3 z4 z5 : Value} {y2 : Option Addr} {m2 d2 : Nat} {r : List Tok} (hB : B ≤ w.heap.size) (hr : RB W w.heap.size z0 z1 z2 z3 z4 z5) (hb : Below w.heap.size w W)
    (hn : NodeV (fun b => w.heap.size + 1 ≤ b) W (.agg #[.string o, .float .f64 n, .string s, .slice x l c]) t) (ht : TokV B W (.slice y2 m2 d2) r) (hK : KOk r) :
    RB (putR W w.heap.size (.string o) (.float .f64 n) (.string s) (.slice x l c) (.slice y2 m2 d2) (.bool false)).drew w.heap.size (.string o) (.float .f64 n) (.string s) (.slice x l c) (.slice y2 m2 d2) (.bool false) ∧
    REnd B (some (t, r)) w (.returned (.agg #[.string o, .float .f64 n, .string s, .slice x l c, .slice y2 m2 d2, .bool false])) (putR W w.heap.size (.string o) (.float .f64 n) (.string s) (.slice x l c) (.slice y2 m2 d2) (.bool false)).drew := by
  refine ⟨hr.put.drew, (below_putR hb (Nat.le_refl _)).drew, _, rfl, _, _, _, _, _, _, _, _, _, _, _, rfl, ?_, .inr ⟨rfl, r, rfl, (ht.putR hB).drew, hK⟩⟩
  exact ((hn.putR (g := w.heap.size) (fun hh => by have h3 : w.heap.size + 1 ≤ w.heap.size := hh; omega)).sub (fun b h1 _ => by have h3 : w.heap.size + 1 ≤ b := h1; show w.heap.size ≤ b; omega)).drew
set_option maxRecDepth 100000 in
set_option maxHeartbeats 8000000 in
theorem ratom_sign (B n : Nat) (H : RC B 22 0 .or 11 n) (t : Tok) (r : List Tok) (hk : t.k = 4) (v : Value) (w : World) (hn : 12 * (t :: r).length + 1 ≤ n + 1) (hl : (t :: r).length ≤ 1000000) (hB : B ≤ w.heap.size) (hK : KOk (t :: r)) (hv : TokV B w v (t :: r)) : Calls Tryz.prog 81 #[v] w (REnd B (P valV true (n + 1) .atom (t :: r)) w) := by
  rw [atom_in n t r hk, inside_true]
  obtain ⟨res, hres⟩ : ∃ y, y = (if isTok (t :: r) 4 [40] = true then insR (P valV true n .or (t :: r).tail) else none) := ⟨_, rfl⟩
  rw [← hres]
  have HAI := Lib.hid (AI.start (K := 115) (S := t.s) hv hB)
  have HB := Lib.hid hB
  have HIS := Lib.hid (fun W (h : TokV B W v (t :: r)) => ris B v (t :: r) 4 (.inr rfl) [40] hK hl W h)
  obtain ⟨x, tn, tc, rfl⟩ := hv.agg
  obtain ⟨hpos, a, rfl, hab0, c0, c1⟩ := tok_first hv
  have hab : a.block < w.heap.size := by omega
  have q3 : ((tn : Int) == 0) = false := by simp; omega
  rw [hk, show kd 4 = 115 from rfl] at c0
  cases hq : isTok (t :: r) 4 [40]
  · have HRN : Hid (res = none) := Lib.hid (by rw [hres, hq]; rfl)
    rw [hq] at HIS
    generalize t.s = S at c1 HAI
    clear hK hB hk hab0 hn hl hres hq H hv
    go_enter Tryz.func81, Tryz.ntmps81
    go_upto_region 4 with (fail)
    generalize ((w.alloc (.cells #[.string ⟨#[]⟩, .float .f64 0, .string ⟨#[]⟩, .slice none 0 0, .slice none 0 0, .bool false] 59)).alloc (.cells #[.int .u8 115, .string (tx S)] 76)) = W1 at HAI ⊢
    obtain ⟨p0, p1⟩ := HAI.out.cells
    have hlt := HAI.out.lt
    have HIS2 := Lib.hid (HIS.out W1 HAI.out.toks)
    clear c0 c1 HIS
    go_wp2_with (first | (go_at_call 62; refine (HIS2.out).mono ?_; rintro e w5 ⟨rfl, rfl⟩) | (go_at_call 94; fail))
    go_at_call 94
    refine (rbad B _).mono ?_
    rintro e w6 ⟨hb6, v6, rfl, hv6⟩
    obtain ⟨hz, o, nn, s, x2, l, c, y, m, d, bad, rfl, hend⟩ := rpass HB.out HAI.out.res HAI.out.bel hb6 hv6
    have HE := Lib.hid hend
    obtain ⟨k0, k1, k2, k3, k4, k5⟩ := hz.cells
    have HZ := Lib.hid hz
    have f0 := hz.fr 0
    have f1 := hz.fr 1
    have f2 := hz.fr 2
    have f3 := hz.fr 3
    have f4 := hz.fr 4
    have f5 := hz.fr 5
    clear hz hend hb6 hv6 HAI HIS2
    go_wp2
    rw [HRN.out]
    exact bodyPost_ret (read_node _ rfl _ _ w.heap.size _ _ _ _ _ _ rfl HZ.out.put) rfl HE.out
  · obtain ⟨y2, m2, d2, hsl, _⟩ := tok_slice hv
    have HSL : Hid (∀ W, TokV B W (.slice (some a) tn tc) (t :: r) → TokV B W (.slice y2 m2 d2) r) := Lib.hid (fun W hW => by
      obtain ⟨y3, m3, d3, h1, h2⟩ := tok_slice hW
      have h3 := (hsl W).symm.trans (h1 W)
      cases h3
      exact h2)
    obtain ⟨R2, hR2⟩ : ∃ y, y = P valV true n .or r := ⟨_, rfl⟩
    have HC := Lib.hid (fun W (hb : B ≤ W.heap.size) (ht : TokV B W (.slice y2 m2 d2) r) => H r _ W (by simp only [List.length_cons] at hn; omega) (by simp only [List.length_cons] at hl; omega) hb hK.tail ht)
    rw [← hR2] at HC
    have HRE : Hid (res = insR R2) := Lib.hid (by rw [hres, if_pos hq, hR2]; rfl)
    have HLN : Hid (∀ a r2, R2 = some (a, r2) → r2.length ≤ 1000000) := Lib.hid (fun a r2 h => by have h1 := (P_len valV true n .or r a r2 (by rw [← hR2]; exact h)).1; simp only [List.length_cons] at hl; omega)
    rw [hq] at HIS
    generalize t.s = S at c1 HAI
    clear hK hB hk hab0 hn hl hres hq H hv hR2
    go_enter Tryz.func81, Tryz.ntmps81
    go_upto_region 4 with (fail)
    generalize ((w.alloc (.cells #[.string ⟨#[]⟩, .float .f64 0, .string ⟨#[]⟩, .slice none 0 0, .slice none 0 0, .bool false] 59)).alloc (.cells #[.int .u8 115, .string (tx S)] 76)) = W1 at HAI ⊢
    obtain ⟨p0, p1⟩ := HAI.out.cells
    have hlt := HAI.out.lt
    have HIS2 := Lib.hid (HIS.out W1 HAI.out.toks)
    clear c0 c1 HIS
    go_wp2_with (first | (go_at_call 62; refine (HIS2.out).mono ?_; rintro e w5 ⟨rfl, rfl⟩) | (go_at_call 22; fail))
    go_at_call 22
    refine (HC.out W1 (by have := HB.out; omega) (HSL.out W1 HAI.out.toks)).mono ?_
    rintro e w5 ⟨hb5, v5, rfl, o5, n5, s5, x5, l5, c5, y5, m5, d5, bad5, t5, rfl, hnode5, hcase5⟩
    have hal5 : Below w5.heap.size w5 (w5.alloc (.cells #[.string o5, .float .f64 n5, .string s5, .slice x5 l5 c5, .slice y5 m5 d5, .bool bad5] 59)) := (Below.refl _ _).alloc (Nat.le_refl _) _
    have HI7 := Lib.hid ((HAI.out.below HB.out hb5).below HB.out hal5)
    have HG7 : Hid (RB (w5.alloc (.cells #[.string o5, .float .f64 n5, .string s5, .slice x5 l5 c5, .slice y5 m5 d5, .bool bad5] 59)) w5.heap.size _ _ _ _ _ _) := Lib.hid (heap_alloc_new _ _)
    have hsz5 := hb5.size
    have HN7 := Lib.hid ((hnode5.sub (B := fun b => w.heap.size + 1 ≤ b) (fun b h1 _ => by have h3 : W1.heap.size ≤ b := h1; show w.heap.size + 1 ≤ b; omega)).below hal5)
    have hlt5 : w.heap.size + 1 < w5.heap.size := by omega
    have HBAD : Hid (∀ (Q : Prop), (bad5 = true → res = none → Q) → (∀ ts2, bad5 = false → TokV B (w5.alloc (.cells #[.string o5, .float .f64 n5, .string s5, .slice x5 l5 c5, .slice y5 m5 d5, .bool bad5] 59)) (.slice y5 m5 d5) ts2 → KOk ts2 → ts2.length ≤ 1000000 → res = (if isTok ts2 4 [41] = true then some (t5, ts2.tail) else none) → Q) → Q) := Lib.hid (fun Q h1 h2 => by
      rcases hcase5 with ⟨h3, h4⟩ | ⟨h3, ts2, h4, h5, h6⟩
      · exact h1 h3 (by rw [HRE.out, h4]; rfl)
      · exact h2 ts2 h3 (h5.below hal5 (by have := HB.out; omega)) h6 (HLN.out _ _ h4) (by rw [HRE.out, h4]; rfl))
    clear hcase5 hnode5 hal5 hb5 HAI HC HIS2 HRE HLN HSL
    refine HBAD.out _ (fun h1 h2 => ?_) (fun ts2 h1 h2 h3 h4 h5 => ?_)
    · subst h1
      have HRN := Lib.hid h2
      clear h2 HBAD HN7
      go_wp2_with (first | (go_at_call 94; fail))
      go_at_call 94
      refine (rbad B _).mono ?_
      rintro e w6 ⟨hb6, v6, rfl, hv6⟩
      obtain ⟨hz, o, nn, s, x2, l, c, y, m, d, bad, rfl, hend⟩ := rpass HB.out HI7.out.res HI7.out.bel hb6 hv6
      have HE := Lib.hid hend
      obtain ⟨k0, k1, k2, k3, k4, k5⟩ := hz.cells
      have HZ := Lib.hid hz
      have f0 := hz.fr 0
      have f1 := hz.fr 1
      have f2 := hz.fr 2
      have f3 := hz.fr 3
      have f4 := hz.fr 4
      have f5 := hz.fr 5
      clear hz hend hb6 hv6 HI7
      go_wp2
      rw [HRN.out]
      exact bodyPost_ret (read_node _ rfl _ _ w.heap.size _ _ _ _ _ _ rfl HZ.out.put) rfl HE.out
    · subst h1
      have HT7 := Lib.hid h2
      have HK7 := Lib.hid h3
      have HIS7 := Lib.hid (ris B _ ts2 4 (.inr rfl) [41] h3 h4 _ h2)
      have HRE := Lib.hid h5
      clear h2 h3 h4 h5 HBAD
      cases hq : isTok ts2 4 [41]
      · have HRN : Hid (res = none) := Lib.hid (by rw [HRE.out, hq]; rfl)
        rw [hq] at HIS7
        clear hq HRE HN7
        go_wp2_with (first | (go_at_call 62; refine (HIS7.out).mono ?_; rintro e w8 ⟨rfl, rfl⟩) | (go_at_call 94; fail))
        go_at_call 94
        refine (rbad B _).mono ?_
        rintro e w6 ⟨hb6, v6, rfl, hv6⟩
        obtain ⟨hz, o, nn, s, x2, l, c, y, m, d, bad, rfl, hend⟩ := rpass HB.out HI7.out.res HI7.out.bel hb6 hv6
        have HE := Lib.hid hend
        obtain ⟨k0, k1, k2, k3, k4, k5⟩ := hz.cells
        have HZ := Lib.hid hz
        have f0 := hz.fr 0
        have f1 := hz.fr 1
        have f2 := hz.fr 2
        have f3 := hz.fr 3
        have f4 := hz.fr 4
        have f5 := hz.fr 5
        clear hz hend hb6 hv6 HI7
        go_wp2
        rw [HRN.out]
        exact bodyPost_ret (read_node _ rfl _ _ w.heap.size _ _ _ _ _ _ rfl HZ.out.put) rfl HE.out
      · obtain ⟨t2, r2, rfl⟩ : ∃ t r, ts2 = t :: r := by
          cases ts2 with
          | nil => cases hq
          | cons t r => exact ⟨t, r, rfl⟩
        have HRS : Hid (res = some (t5, r2)) := Lib.hid (by rw [HRE.out, if_pos hq]; rfl)
        rw [hq] at HIS7
        obtain ⟨y8, m8, d8, hsl8, hts8⟩ := tok_slice HT7.out
        have HE := Lib.hid (node_end HB.out HI7.out.res HI7.out.bel HN7.out hts8 HK7.out.tail)
        rw [← HRS.out] at HE
        clear hq HRE hts8 HT7 HK7 HRS
        go_wp2_with (first | (go_at_call 62; refine (HIS7.out).mono ?_; rintro e w8 ⟨rfl, rfl⟩))
        generalize (w5.alloc (.cells #[.string o5, .float .f64 n5, .string s5, .slice x5 l5 c5, .slice y5 m5 d5, .bool false] 59)) = W7 at HI7 HG7 HE ⊢
        generalize w5.heap.size = g7 at HG7 hlt5 ⊢
        obtain ⟨e0, e1, e2, e3, e4, e5⟩ := HG7.out.cells
        obtain ⟨k0, k1, k2, k3, k4, k5⟩ := HI7.out.res.cells
        have f0 := HI7.out.res.fr 0
        have f1 := HI7.out.res.fr 1
        have f2 := HI7.out.res.fr 2
        have f3 := HI7.out.res.fr 3
        have f4 := HI7.out.res.fr 4
        have f5 := HI7.out.res.fr 5
        clear HI7 HG7 HIS7 HN7
        go_region
        go_wp2
        exact bodyPost_ret (read_node _ rfl _ _ w.heap.size _ _ _ _ _ _ rfl HE.out.1) rfl HE.out.2
end Go.Proofs.YtmhfnpabgkkjaaaGreat
