/- Own texts, merged: SB, SC, SD, SE. -/
import Derived.Test.YtmhfnpabgkkjaaaSA
import Derived.Test.YtmhfnpabgkkjaaaHC
/- Walk: eval: its start, leaves. -/
namespace Go.Proofs.Ytmhfnpabgkkjaaa
open Go.RowKit Go.Shelf Ieee
attribute [local go_sem] run_store_float
/-- How many clusters a text has. -/
def clN (s : Bs) : Nat := (cutS s).length
theorem takes_12 {op : Bs} {k : Nat} (h : takesT op = some k) (h0 : op ≠ wnum) (h1 : op ≠ wtext) (h2 : op ≠ wname) : (k = 1 ∧ (op = wnot ∨ op = wneg ∨ op = wabs ∨ op = wlen)) ∨ (k = 2 ∧ op ≠ wnot ∧ op ≠ wneg ∧ op ≠ wabs ∧ op ≠ wlen) := by
  unfold takesT at h
  rw [if_neg (fun e => by rcases e with e | e | e; exact h0 e; exact h1 e; exact h2 e)] at h
  by_cases q : op = wnot ∨ op = wneg ∨ op = wlen ∨ op = wabs
  · rw [if_pos q] at h
    cases h
    rcases q with q | q | q | q
    · exact .inl ⟨rfl, .inl q⟩
    · exact .inl ⟨rfl, .inr (.inl q)⟩
    · exact .inl ⟨rfl, .inr (.inr (.inr q))⟩
    · exact .inl ⟨rfl, .inr (.inr (.inl q))⟩
  · rw [if_neg q] at h
    split at h
    · cases h
      exact .inr ⟨rfl, fun e => q (.inl e), fun e => q (.inr (.inl e)), fun e => q (.inr (.inr (.inr e))), fun e => q (.inr (.inr (.inl e)))⟩
    · cases h
/-- What eval holds: the node, its result's variable. -/
structure EI (w : World) (o : ByteArray) (fn : Nat) (s : ByteArray) (x : Option Addr) (l c : Nat) (m : Int) (W : World) : Prop where
  node : NB W w.heap.size (.agg #[.string o, .float .f64 fn, .string s, .slice x l c])
  r : VB W (w.heap.size + 1) (.int .i64 0) (.float .f64 0) (.string ⟨#[]⟩) (.bool false)
  bel : Below w.heap.size w W
  mx : MaxLn m W
theorem EI.start {w : World} {m : Int} (hm : MaxLn m w) (o : ByteArray) (fn : Nat) (s : ByteArray) (x : Option Addr) (l c : Nat) :
    EI w o fn s x l c m ((w.alloc (.cells #[.string o, .float .f64 fn, .string s, .slice x l c] 38)).alloc (.cells #[.int .i64 0, .float .f64 0, .string ⟨#[]⟩, .bool false] 25)) := by
  have h1 : NB (w.alloc (.cells #[.string o, .float .f64 fn, .string s, .slice x l c] 38)) w.heap.size (.agg #[.string o, .float .f64 fn, .string s, .slice x l c]) := ⟨_, _, _, _, rfl, heap_alloc_new _ _⟩
  have h2 : VB ((w.alloc (.cells #[.string o, .float .f64 fn, .string s, .slice x l c] 38)).alloc (.cells #[.int .i64 0, .float .f64 0, .string ⟨#[]⟩, .bool false] 25)) (w.heap.size + 1) (.int .i64 0) (.float .f64 0) (.string ⟨#[]⟩) (.bool false) := by
    have := heap_alloc_new (w.alloc (.cells #[.string o, .float .f64 fn, .string s, .slice x l c] 38)) (.cells #[.int .i64 0, .float .f64 0, .string ⟨#[]⟩, .bool false] 25)
    simpa [VB] using this
  have hb : Below w.heap.size w ((w.alloc (.cells #[.string o, .float .f64 fn, .string s, .slice x l c] 38)).alloc (.cells #[.int .i64 0, .float .f64 0, .string ⟨#[]⟩, .bool false] 25)) := ((Below.refl _ _).alloc (Nat.le_refl _) _).alloc (by simp) _
  exact ⟨h1.below ((Below.refl _ _).alloc (Nat.le_refl _) _), h2, hb, hm.below hb⟩
theorem EI.below {w : World} {o : ByteArray} {fn : Nat} {s : ByteArray} {x : Option Addr} {l c : Nat} {m : Int} {W W' : World} (h : EI w o fn s x l c m W) (hb : Below W.heap.size W W') : EI w o fn s x l c m W' :=
  ⟨h.node.below hb, h.r.below hb, h.bel.trans (below_le hb h.bel.size), h.mx.below hb⟩
/-- The result, stored. -/
theorem EI.put {w : World} {o : ByteArray} {fn : Nat} {s : ByteArray} {x : Option Addr} {l c : Nat} {m : Int} {W : World} (h : EI w o fn s x l c m W) {A B : Av} (hAB : B = A) {n : Nat} (hn : fA n = A.n) (t : Int) (ht : t = (A.t : Int)) (z : ByteArray) (hz : z = tx A.s) (b : Bool) (hb : b = A.b) (ob : Obj) :
    (VB (putN W (w.heap.size + 1) (.int .i64 t) (.float .f64 n) (.string z) (.bool b)) (w.heap.size + 1) (.int .i64 t) (.float .f64 n) (.string z) (.bool b) ∧
      VEnd B w (.returned (.agg #[.int .i64 t, .float .f64 n, .string z, .bool b])) (putN W (w.heap.size + 1) (.int .i64 t) (.float .f64 n) (.string z) (.bool b))) ∧
    (VB ((putN W (w.heap.size + 1) (.int .i64 t) (.float .f64 n) (.string z) (.bool b)).alloc ob) (w.heap.size + 1) (.int .i64 t) (.float .f64 n) (.string z) (.bool b) ∧
      VEnd B w (.returned (.agg #[.int .i64 t, .float .f64 n, .string z, .bool b])) ((putN W (w.heap.size + 1) (.int .i64 t) (.float .f64 n) (.string z) (.bool b)).alloc ob)) := by
  subst hAB ht hz hb
  have h1 := below_put (v0 := .int .i64 B.t) (v1 := .float .f64 n) (v2 := .string (tx B.s)) (v3 := .bool B.b) h.bel (show w.heap.size ≤ w.heap.size + 1 by omega)
  have h2 := h.r.put (v0 := .int .i64 B.t) (v1 := .float .f64 n) (v2 := .string (tx B.s)) (v3 := .bool B.b)
  exact ⟨⟨h2, h1, _, rfl, n, rfl, hn⟩, h2.below ((Below.refl _ _).alloc (Nat.le_refl _) _), h1.alloc (by have := h.bel.size; rw [putN_size]; exact this) _, _, rfl, n, rfl, hn⟩
theorem EI.fin {w : World} {o : ByteArray} {fn : Nat} {s : ByteArray} {x : Option Addr} {l c : Nat} {m : Int} {W W' : World} (h : EI w o fn s x l c m W) {A B : Av} (hAB : B = A) {v : Value} (hv : ValV v A) (hb : Below W.heap.size W W') :
    VB W' (w.heap.size + 1) (.int .i64 0) (.float .f64 0) (.string ⟨#[]⟩) (.bool false) ∧ ∃ n, v = .agg #[.int .i64 A.t, .float .f64 n, .string (tx A.s), .bool A.b] ∧
      VB (putN W' (w.heap.size + 1) (.int .i64 A.t) (.float .f64 n) (.string (tx A.s)) (.bool A.b)) (w.heap.size + 1) (.int .i64 A.t) (.float .f64 n) (.string (tx A.s)) (.bool A.b) ∧
      VEnd B w (.returned (.agg #[.int .i64 A.t, .float .f64 n, .string (tx A.s), .bool A.b])) (putN W' (w.heap.size + 1) (.int .i64 A.t) (.float .f64 n) (.string (tx A.s)) (.bool A.b)) := by
  obtain ⟨n, rfl, hn⟩ := hv
  have h2 := h.below hb
  have h3 := (h2.put hAB hn A.t rfl (tx A.s) rfl A.b rfl (.cells #[] 0)).1
  exact ⟨h2.r, n, rfl, h3.1, h3.2⟩
set_option maxRecDepth 100000 in
set_option maxHeartbeats 8000000 in
theorem weval_leaf (L : List Bnd) (hLL : L.length ≤ 1000000) (vb : Value) (op s : Bs) (fn : Nat) (l : List Tree) (hty : (tyT L (.mk op fn s l)).2 = 0) (hop : op = wnum ∨ op = wtext ∨ op = wname) (A : Nat → Prop) (v : Value) (m : Int) (w : World) (hv : NodeV A w v (.mk op fn s l)) (hbv : BndV w vb L) (hm : MaxLn m w) :
    Calls Try.prog 15 #[v, vb] w (VEnd (evT clN L (.mk op fn s l)) w) := by
  obtain ⟨x, cap, rfl, hcap, _⟩ := hv
  have HEI := Lib.hid (EI.start hm (tx op) fn (tx s) x l.length cap)
  have HBV := Lib.hid hbv
  have HNM := Lib.hid (fun c W => wnumV c W)
  have HBN := Lib.hid (fun W h => wbound s vb L hLL W h)
  have HBT : Hid (op = wname → ∃ v, boundV L s = some v) := Lib.hid (ty_ok hty).2.2
  obtain ⟨bx, bn, bc, rfl⟩ := hbv.agg
  obtain ⟨R, hR⟩ : ∃ R, R = evT clN L (.mk op fn s l) := ⟨_, rfl⟩
  rw [← hR]
  rw [evT] at hR
  generalize l.length = N at HEI hcap ⊢
  clear hty hbv hm
  rcases hop with hop | hop | hop
  · have HM : Hid (R = avN (fA fn)) := Lib.hid (by rw [hR, if_pos hop])
    have b0 : ((tx op).toList == [110, 117, 109]) = true := by rw [hop]; exact tx_same _
    clear hR hop HBT HBN
    generalize tx op = T at *
    generalize tx s = S at *
    go_enter Try.func15, Try.ntmps15
    go_upto_region 1 with (fail)
    generalize ((w.alloc (.cells #[.string T, .float .f64 fn, .string S, .slice x N cap] 38)).alloc (.cells #[.int .i64 0, .float .f64 0, .string ⟨#[]⟩, .bool false] 25)) = W0 at HEI ⊢
    obtain ⟨p0, p1, p2, p3, _⟩ := HEI.out.node.cells
    have hlt := HEI.out.r.lt
    go_wp2_with (first | (go_at_call 20; fail))
    go_at_call 20
    refine (HNM.out _ _).mono ?_
    rintro e w5 ⟨hb5, v5, rfl, hv5⟩
    obtain ⟨hz, n5, rfl, hz2, hend⟩ := EI.fin HEI.out HM.out hv5 hb5
    have HE := Lib.hid (And.intro hz2 hend)
    obtain ⟨k0, k1, k2, k3⟩ := hz.cells
    have f0 := hz.fr 0
    have f1 := hz.fr 1
    have f2 := hz.fr 2
    have f3 := hz.fr 3
    clear hz hz2 hend hb5 hv5
    go_wp2
    exact bodyPost_ret (val_res rfl _ _ (w.heap.size + 1) _ _ _ _ rfl HE.out.1) rfl HE.out.2
  · have HM : Hid (R = ⟨2, some 0, s, false⟩) := Lib.hid (by rw [hR, if_neg (by rw [hop]; decide), if_pos hop])
    have b0 : ((tx op).toList == [110, 117, 109]) = false := tx_ne (by rw [hop]; decide)
    have b1 : ((tx op).toList == [116, 101, 120, 116]) = true := by rw [hop]; exact tx_same _
    clear hR hop HBT HBN
    generalize tx op = T at *
    go_enter Try.func15, Try.ntmps15
    go_upto_region 1 with (fail)
    generalize ((w.alloc (.cells #[.string T, .float .f64 fn, .string (tx s), .slice x N cap] 38)).alloc (.cells #[.int .i64 0, .float .f64 0, .string ⟨#[]⟩, .bool false] 25)) = W0 at HEI ⊢
    obtain ⟨p0, p1, p2, p3, _⟩ := HEI.out.node.cells
    have hlt := HEI.out.r.lt
    have HE := Lib.hid (EI.put HEI.out HM.out (n := 0) fA_zero 2 rfl (tx s) rfl false rfl (.cells #[] 0)).1
    obtain ⟨k0, k1, k2, k3⟩ := HEI.out.r.cells
    have f0 := HEI.out.r.fr 0
    have f1 := HEI.out.r.fr 1
    have f2 := HEI.out.r.fr 2
    have f3 := HEI.out.r.fr 3
    go_wp2
    exact bodyPost_ret (val_res rfl _ _ (w.heap.size + 1) _ _ _ _ rfl HE.out.1) rfl HE.out.2
  · obtain ⟨bv, hbo⟩ := HBT.out hop
    have HM : Hid (R = avOf bv) := Lib.hid (by rw [hR, if_neg (by rw [hop]; decide), if_neg (by rw [hop]; decide), if_pos hop, hbo])
    have HT3 := Lib.hid (bound_t hbo)
    have b0 : ((tx op).toList == [110, 117, 109]) = false := tx_ne (by rw [hop]; decide)
    have b1 : ((tx op).toList == [116, 101, 120, 116]) = false := tx_ne (by rw [hop]; decide)
    have b2 : ((tx op).toList == [110, 97, 109, 101]) = true := by rw [hop]; exact tx_same _
    rw [hbo] at HBN
    clear hR hop HBT hbo
    generalize tx op = T at *
    go_enter Try.func15, Try.ntmps15
    go_upto_region 1 with (fail)
    generalize ((w.alloc (.cells #[.string T, .float .f64 fn, .string (tx s), .slice x N cap] 38)).alloc (.cells #[.int .i64 0, .float .f64 0, .string ⟨#[]⟩, .bool false] 25)) = W0 at HEI ⊢
    obtain ⟨p0, p1, p2, p3, _⟩ := HEI.out.node.cells
    have hlt := HEI.out.r.lt
    go_wp2_with (first | (go_at_call 21; fail))
    refine (HBN.out _ (HBV.out.below HEI.out.bel)).mono ?_
    rintro e w3 ⟨rfl, hb3⟩
    have HEI3 := Lib.hid (HEI.out.below hb3)
    obtain ⟨vt, vn, vs, vb'⟩ := bv
    have HT : Hid (vt = ((vt.toNat : Nat) : Int)) := Lib.hid (by
      have h3 : vt = 1 ∨ vt = 2 ∨ vt = 3 := HT3.out
      omega)
    have HE := Lib.hid (fun ob => (EI.put HEI3.out HM.out (n := vn) rfl vt HT.out (tx vs) rfl vb' rfl ob).2)
    obtain ⟨k0, k1, k2, k3⟩ := HEI3.out.r.cells
    have hlt3 := HEI3.out.r.lt
    have f0 := HEI3.out.r.fr 0
    have f1 := HEI3.out.r.fr 1
    have f2 := HEI3.out.r.fr 2
    have f3 := HEI3.out.r.fr 3
    clear hb3
    unfold bvV
    go_wp2
    exact bodyPost_ret (val_res rfl _ _ (w.heap.size + 1) _ _ _ _ rfl (HE.out _).1) rfl (HE.out _).2
end Go.Proofs.Ytmhfnpabgkkjaaa
/- Walk: eval (printed by gen_sc.py). -/
namespace Go.Proofs.Ytmhfnpabgkkjaaa
open Go.RowKit Go.Shelf Ieee
attribute [local go_sem] run_store_float
theorem of_int (n : Nat) : fA (floatOfInt .f64 (n : Int)) = some (ofI n) := fA_num (ofI_num n)
set_option maxRecDepth 100000 in
set_option maxHeartbeats 8000000 in
theorem weval_one (L : List Bnd) (vb : Value) (op s : Bs) (fn : Nat) (t0 : Tree) (hop0 : op ≠ wnum) (hop1 : op ≠ wtext) (hop2 : op ≠ wname) (ho : op = wnot ∨ op = wneg ∨ op = wabs ∨ op = wlen) (A : Nat → Prop) (v : Value) (m : Int) (w : World) (hbv : BndV w vb L) (hm : MaxLn m w)
    (hlen : (evT clN L t0).s.length ≤ 900000) (HK : ∀ (v : Value) (W : World), NodeV A W v t0 → BndV W vb L → MaxLn m W → Calls Try.prog 15 #[v, vb] W (VEnd (evT clN L t0) W)) (hv : NodeV A w v (.mk op fn s [t0])) :
    Calls Try.prog 15 #[v, vb] w (VEnd (evT clN L (.mk op fn s [t0])) w) := by
  obtain ⟨x, cap, rfl, hcap, hx, hch⟩ := hv
  obtain ⟨a, rfl⟩ : ∃ a, x = some a := by
    cases x with
    | none => have := hx rfl; cases this
    | some a => exact ⟨a, rfl⟩
  obtain ⟨hab, ⟨⟨u0, u1, u2, u3, e0, e1, e2, e3, hnode⟩, _⟩⟩ := hch a rfl
  replace hab := (hab (by intro e; cases e)).2
  simp only [Nat.zero_mul, Nat.zero_add] at e0 e1 e2 e3
  rw [show a.add 0 = a from rfl] at e0
  have e1' : w.cell? ⟨a.block, a.off + 1, none⟩ = some u1 := by simpa [Addr.add] using e1
  have e2' : w.cell? ⟨a.block, a.off + 2, none⟩ = some u2 := by simpa [Addr.add] using e2
  have e3' : w.cell? ⟨a.block, a.off + 3, none⟩ = some u3 := by simpa [Addr.add] using e3
  obtain ⟨o1, n1, s1, x1, l1, c1, hag⟩ := hnode.agg
  cases hag
  have HND := Lib.hid hnode
  have HKK := Lib.hid HK
  have HCN := Lib.hid (fun W => wcount (evT clN L t0).s hlen W)
  have HEI := Lib.hid (EI.start hm (tx op) fn (tx s) (some a) 1 cap)
  have HBV := Lib.hid hbv
  have HNM := Lib.hid (fun c W => wnumV c W)
  have HTR := Lib.hid (fun c W => wtruthV c W)
  obtain ⟨bx, bn, bc, rfl⟩ := hbv.agg
  obtain ⟨R, hR⟩ : ∃ R, R = evT clN L (.mk op fn s [t0]) := ⟨_, rfl⟩
  rw [← hR]
  rw [evT, if_neg hop0, if_neg hop1, if_neg hop2] at hR
  have hR1 : R = oneA clN op (evT clN L t0) := hR
  have HM0 := Lib.hid hR1
  obtain ⟨A1, hA1⟩ : ∃ x, x = evT clN L t0 := ⟨_, rfl⟩
  rw [← hA1] at HM0 HCN HKK
  have b0 : ((tx op).toList == [110, 117, 109]) = false := tx_ne hop0
  have b1 : ((tx op).toList == [116, 101, 120, 116]) = false := tx_ne hop1
  have b2 : ((tx op).toList == [110, 97, 109, 101]) = false := tx_ne hop2
  have HOP := Lib.hid ho
  obtain ⟨T, hT⟩ : ∃ T, T = tx op := ⟨_, rfl⟩
  have HT := Lib.hid hT
  rw [← hT] at b0 b1 b2 HEI ⊢
  clear hR hR1 hch hx hbv hm hnode HK hlen hcap ho hop0 hop1 hop2 hA1 hT
  show Calls Try.prog 15 #[.agg #[.string T, .float .f64 fn, .string (tx s), .slice (some a) 1 cap], .slice bx bn bc] w (VEnd R w)
  go_enter Try.func15, Try.ntmps15
  go_upto_region 1 with (fail)
  generalize ((w.alloc (.cells #[.string T, .float .f64 fn, .string (tx s), .slice (some a) 1 cap] 38)).alloc (.cells #[.int .i64 0, .float .f64 0, .string ⟨#[]⟩, .bool false] 25)) = W0 at HEI ⊢
  obtain ⟨p0, p1, p2, p3, _⟩ := HEI.out.node.cells
  have hlt := HEI.out.r.lt
  have hs : W0.heap[a.block]? = w.heap[a.block]? := HEI.out.bel.block _ hab
  have d0 := cell_same hs e0
  have d1 := cell_same (a := ⟨a.block, a.off + 1, none⟩) hs e1'
  have d2 := cell_same (a := ⟨a.block, a.off + 2, none⟩) hs e2'
  have d3 := cell_same (a := ⟨a.block, a.off + 3, none⟩) hs e3'
  clear e0 e1 e2 e3 e1' e2' e3' hs
  go_wp2_with (first | (go_at_call 15; fail))
  refine (HKK.out _ W0 (HND.out.below HEI.out.bel) (HBV.out.below HEI.out.bel) HEI.out.mx).mono ?_
  rintro e w5 ⟨hb5, v5, rfl, n5, rfl, hn5⟩
  have HEI7 := Lib.hid ((HEI.out.below hb5).below ((Below.refl w5.heap.size w5).alloc (Nat.le_refl _) (.cells #[.int .i64 A1.t, .float .f64 n5, .string (tx A1.s), .bool A1.b] 25)))
  have HG7 : Hid (VB (w5.alloc (.cells #[.int .i64 A1.t, .float .f64 n5, .string (tx A1.s), .bool A1.b] 25)) w5.heap.size (.int .i64 A1.t) (.float .f64 n5) (.string (tx A1.s)) (.bool A1.b)) := Lib.hid (heap_alloc_new _ _)
  have HN5 := Lib.hid hn5
  have hlt5 : w.heap.size + 1 < w5.heap.size := by have := hb5.size; omega
  clear hb5 d0 d1 d2 d3 p0 p1 p2 p3 HEI HKK HND HBV hn5
  go_upto_region 10 with (fail)
  generalize (w5.alloc (.cells #[.int .i64 A1.t, .float .f64 n5, .string (tx A1.s), .bool A1.b] 25)) = W7 at HEI7 HG7 ⊢
  generalize w5.heap.size = g7 at HG7 hlt5 ⊢
  obtain ⟨q0, q1, q2, q3⟩ := HG7.out.cells
  obtain ⟨p0, p1, p2, p3, _⟩ := HEI7.out.node.cells
  have hlt := HEI7.out.r.lt
  have hg7 := HG7.out.lt
  rcases HOP.out with ho | ho | ho | ho
  · have h0 : (T.toList == [110, 111, 116]) = true := by rw [HT.out, ho]; exact tx_same _
    have HM : Hid (R = avB (!A1.b)) := Lib.hid (by rw [HM0.out, ho]; unfold oneA; rw [if_pos (by decide)])
    clear HM0 HOP ho HT HN5
    go_wp2_with (first | (go_at_call 22; fail))
    go_at_call 22
    refine (HTR.out _ _).mono ?_
    rintro e w8 ⟨hb8, v8, rfl, hv8⟩
    obtain ⟨hz, n8, rfl, hz2, hend⟩ := EI.fin HEI7.out HM.out hv8 hb8
    have HE := Lib.hid (And.intro hz2 hend)
    obtain ⟨k0, k1, k2, k3⟩ := hz.cells
    have f0 := hz.fr 0
    have f1 := hz.fr 1
    have f2 := hz.fr 2
    have f3 := hz.fr 3
    clear hz hz2 hend hb8 hv8
    go_wp2
    exact bodyPost_ret (val_res rfl _ _ (w.heap.size + 1) _ _ _ _ rfl HE.out.1) rfl HE.out.2
  · have h0 : (T.toList == [110, 111, 116]) = false := by rw [HT.out]; exact tx_ne (by rw [ho]; decide)
    have h1 : (T.toList == [110, 101, 103]) = true := by rw [HT.out, ho]; exact tx_same _
    have HM : Hid (R = avN (fA (n5 ^^^ 2 ^ 63))) := Lib.hid (by rw [HM0.out, ho]; unfold oneA; rw [if_neg (by decide), if_pos (by decide)]; rw [negA_neg, HN5.out])
    clear HM0 HOP ho HT HN5
    have hU : ∀ W, (Op.unary UnOp.neg (.float .f64 n5)).run Try.prog W = .ok (.float .f64 (n5 ^^^ 2 ^ 63)) W := fun _ => rfl
    generalize n5 ^^^ 2 ^ 63 = ng at hU HM
    go_wp2_with (first | (go_at_call 20; fail))
    go_at_call 20
    refine (HNM.out ng _).mono ?_
    rintro e w8 ⟨hb8, v8, rfl, hv8⟩
    obtain ⟨hz, n8, rfl, hz2, hend⟩ := EI.fin HEI7.out HM.out hv8 hb8
    have HE := Lib.hid (And.intro hz2 hend)
    obtain ⟨k0, k1, k2, k3⟩ := hz.cells
    have f0 := hz.fr 0
    have f1 := hz.fr 1
    have f2 := hz.fr 2
    have f3 := hz.fr 3
    clear hz hz2 hend hb8 hv8
    go_wp2
    exact bodyPost_ret (val_res rfl _ _ (w.heap.size + 1) _ _ _ _ rfl HE.out.1) rfl HE.out.2
  · have h0 : (T.toList == [110, 111, 116]) = false := by rw [HT.out]; exact tx_ne (by rw [ho]; decide)
    have h1 : (T.toList == [110, 101, 103]) = false := by rw [HT.out]; exact tx_ne (by rw [ho]; decide)
    have h2 : (T.toList == [97, 98, 115]) = true := by rw [HT.out, ho]; exact tx_same _
    have HM : Hid (R = avN (fA (n5 % 2 ^ 63))) := Lib.hid (by rw [HM0.out, ho]; unfold oneA; rw [if_neg (by decide), if_neg (by decide), if_pos (by decide)]; rw [absA_abs, HN5.out])
    clear HM0 HOP ho HT HN5
    have HAB := Lib.hid (fun W => wabsF n5 W)
    go_wp2_with (first | (go_at_call 23; refine (HAB.out _).mono ?_; rintro e w6 ⟨rfl, rfl⟩) | (go_at_call 20; fail))
    go_at_call 20
    refine (HNM.out _ _).mono ?_
    rintro e w8 ⟨hb8, v8, rfl, hv8⟩
    obtain ⟨hz, n8, rfl, hz2, hend⟩ := EI.fin HEI7.out HM.out hv8 hb8
    have HE := Lib.hid (And.intro hz2 hend)
    obtain ⟨k0, k1, k2, k3⟩ := hz.cells
    have f0 := hz.fr 0
    have f1 := hz.fr 1
    have f2 := hz.fr 2
    have f3 := hz.fr 3
    clear hz hz2 hend hb8 hv8
    go_wp2
    exact bodyPost_ret (val_res rfl _ _ (w.heap.size + 1) _ _ _ _ rfl HE.out.1) rfl HE.out.2
  · have h0 : (T.toList == [110, 111, 116]) = false := by rw [HT.out]; exact tx_ne (by rw [ho]; decide)
    have h1 : (T.toList == [110, 101, 103]) = false := by rw [HT.out]; exact tx_ne (by rw [ho]; decide)
    have h2 : (T.toList == [97, 98, 115]) = false := by rw [HT.out]; exact tx_ne (by rw [ho]; decide)
    have h3 : (T.toList == [108, 101, 110]) = true := by rw [HT.out, ho]; exact tx_same _
    have HM : Hid (R = avN (fA (floatOfInt .f64 ((clN A1.s : Nat) : Int)))) := Lib.hid (by rw [HM0.out, ho]; unfold oneA; rw [if_neg (by decide), if_neg (by decide), if_neg (by decide)]; rw [of_int])
    clear HM0 HOP ho HT HN5
    have HCN1 : Hid (Calls Try.prog 24 #[.string (tx A1.s)] W7 fun e w' => e = .returned (.int .i64 (clN A1.s)) ∧ Below W7.heap.size W7 w') := Lib.hid (HCN.out W7)
    generalize clN A1.s = CL at HM HCN1
    clear HCN
    go_wp2_with (first | (go_at_call 24; fail))
    go_at_call 24
    refine (HCN1.out).mono ?_
    rintro e w6 ⟨rfl, hb6⟩
    have HEI6 := Lib.hid (HEI7.out.below hb6)
    clear hb6
    go_wp2_with (first | (go_at_call 20; fail))
    go_at_call 20
    refine (HNM.out _ _).mono ?_
    rintro e w8 ⟨hb8, v8, rfl, hv8⟩
    obtain ⟨hz, n8, rfl, hz2, hend⟩ := EI.fin HEI6.out HM.out hv8 hb8
    have HE := Lib.hid (And.intro hz2 hend)
    obtain ⟨k0, k1, k2, k3⟩ := hz.cells
    have f0 := hz.fr 0
    have f1 := hz.fr 1
    have f2 := hz.fr 2
    have f3 := hz.fr 3
    clear hz hz2 hend hb8 hv8
    go_wp2
    exact bodyPost_ret (val_res rfl _ _ (w.heap.size + 1) _ _ _ _ rfl HE.out.1) rfl HE.out.2
end Go.Proofs.Ytmhfnpabgkkjaaa
/- Walk: eval at an Op of two, and all of eval (printed by gen_sd.py). -/
namespace Go.Proofs.Ytmhfnpabgkkjaaa
open Go.RowKit Go.Shelf Ieee
attribute [local go_sem] run_store_float
set_option maxRecDepth 100000 in
set_option maxHeartbeats 8000000 in
theorem weval_two (L : List Bnd) (vb : Value) (op s : Bs) (fn : Nat) (t0 t1 : Tree) (hop0 : op ≠ wnum) (hop1 : op ≠ wtext) (hop2 : op ≠ wname) (hn0 : op ≠ wnot) (hn1 : op ≠ wneg) (hn2 : op ≠ wabs) (hn3 : op ≠ wlen) (htk : takesT op = some 2) (A : Nat → Prop) (v : Value) (m : Int) (w : World) (hbv : BndV w vb L) (hm : MaxLn m w)
    (hlen : (evT clN L t0).s.length ≤ 900000) (HK : ∀ (v : Value) (W : World), NodeV A W v t0 → BndV W vb L → MaxLn m W → Calls Try.prog 15 #[v, vb] W (VEnd (evT clN L t0) W))
    (HK2 : ∀ (v : Value) (W : World), NodeV A W v t1 → BndV W vb L → MaxLn m W → Calls Try.prog 15 #[v, vb] W (VEnd (evT clN L t1) W)) (hv : NodeV A w v (.mk op fn s [t0, t1])) :
    Calls Try.prog 15 #[v, vb] w (VEnd (evT clN L (.mk op fn s [t0, t1])) w) := by
  obtain ⟨x, cap, rfl, hcap, hx, hch⟩ := hv
  obtain ⟨a, rfl⟩ : ∃ a, x = some a := by
    cases x with
    | none => have := hx rfl; cases this
    | some a => exact ⟨a, rfl⟩
  obtain ⟨hab, ⟨⟨u0, u1, u2, u3, e0, e1, e2, e3, hnode⟩, ⟨⟨y0, y1, y2, y3, e4, e5, e6, e7, hnode2⟩, _⟩⟩⟩ := hch a rfl
  replace hab := (hab (by intro e; cases e)).2
  simp only [Nat.zero_mul, Nat.zero_add, Nat.one_mul] at e0 e1 e2 e3 e4 e5 e6 e7
  rw [show a.add 0 = a from rfl] at e0
  have e1' : w.cell? ⟨a.block, a.off + 1, none⟩ = some u1 := by simpa [Addr.add] using e1
  have e2' : w.cell? ⟨a.block, a.off + 2, none⟩ = some u2 := by simpa [Addr.add] using e2
  have e3' : w.cell? ⟨a.block, a.off + 3, none⟩ = some u3 := by simpa [Addr.add] using e3
  have e4' : w.cell? ⟨a.block, a.off + 4, none⟩ = some y0 := by simpa [Addr.add] using e4
  have e5' : w.cell? ⟨a.block, a.off + 4 + 1, none⟩ = some y1 := by simpa [Addr.add] using e5
  have e6' : w.cell? ⟨a.block, a.off + 4 + 2, none⟩ = some y2 := by simpa [Addr.add] using e6
  have e7' : w.cell? ⟨a.block, a.off + 4 + 3, none⟩ = some y3 := by simpa [Addr.add] using e7
  obtain ⟨o1, n1, s1, x1, l1, c1, hag⟩ := hnode.agg
  cases hag
  obtain ⟨o2, n2, s2, x2, l2, c2, hag⟩ := hnode2.agg
  cases hag
  have HND := Lib.hid hnode
  have HND2 := Lib.hid hnode2
  have HKK := Lib.hid HK
  have HKK2 := Lib.hid HK2
  have HLEN := Lib.hid hlen
  have HEI := Lib.hid (EI.start hm (tx op) fn (tx s) (some a) 2 cap)
  have HBV := Lib.hid hbv
  obtain ⟨bx, bn, bc, rfl⟩ := hbv.agg
  obtain ⟨R, hR⟩ : ∃ R, R = evT clN L (.mk op fn s [t0, t1]) := ⟨_, rfl⟩
  rw [← hR]
  rw [evT, if_neg hop0, if_neg hop1, if_neg hop2] at hR
  have hR1 : R = twoA op (evT clN L t0) (evT clN L t1) := hR
  have HM := Lib.hid hR1
  obtain ⟨A1, hA1⟩ : ∃ x, x = evT clN L t0 := ⟨_, rfl⟩
  obtain ⟨A2, hA2⟩ : ∃ x, x = evT clN L t1 := ⟨_, rfl⟩
  rw [← hA1] at HM HKK HLEN
  rw [← hA2] at HM HKK2
  have HBO := Lib.hid (fun (va vb : Value) (W : World) h1 h2 h3 => wboth op htk va vb A1 A2 m (by have := HLEN.out; omega) W h1 h2 h3)
  have b0 : ((tx op).toList == [110, 117, 109]) = false := tx_ne hop0
  have b1 : ((tx op).toList == [116, 101, 120, 116]) = false := tx_ne hop1
  have b2 : ((tx op).toList == [110, 97, 109, 101]) = false := tx_ne hop2
  have b3 : ((tx op).toList == [110, 111, 116]) = false := tx_ne hn0
  have b4 : ((tx op).toList == [110, 101, 103]) = false := tx_ne hn1
  have b5 : ((tx op).toList == [97, 98, 115]) = false := tx_ne hn2
  have b6 : ((tx op).toList == [108, 101, 110]) = false := tx_ne hn3
  obtain ⟨T, hT⟩ : ∃ T, T = tx op := ⟨_, rfl⟩
  rw [← hT] at b0 b1 b2 b3 b4 b5 b6 HEI HBO ⊢
  clear hR hR1 hch hx hbv hm hnode hnode2 HK HK2 hlen hcap hop0 hop1 hop2 hn0 hn1 hn2 hn3 htk hA1 hA2 hT e1 e2 e3 e4 e5 e6 e7
  show Calls Try.prog 15 #[.agg #[.string T, .float .f64 fn, .string (tx s), .slice (some a) 2 cap], .slice bx bn bc] w (VEnd R w)
  go_enter Try.func15, Try.ntmps15
  go_upto_region 1 with (fail)
  generalize ((w.alloc (.cells #[.string T, .float .f64 fn, .string (tx s), .slice (some a) 2 cap] 38)).alloc (.cells #[.int .i64 0, .float .f64 0, .string ⟨#[]⟩, .bool false] 25)) = W0 at HEI ⊢
  obtain ⟨p0, p1, p2, p3, _⟩ := HEI.out.node.cells
  have hlt := HEI.out.r.lt
  have hs : W0.heap[a.block]? = w.heap[a.block]? := HEI.out.bel.block _ hab
  have d0 := cell_same hs e0
  have d1 := cell_same (a := ⟨a.block, a.off + 1, none⟩) hs e1'
  have d2 := cell_same (a := ⟨a.block, a.off + 2, none⟩) hs e2'
  have d3 := cell_same (a := ⟨a.block, a.off + 3, none⟩) hs e3'
  clear e0 e1' e2' e3' hs
  go_wp2_with (first | (go_at_call 15; fail))
  refine (HKK.out _ W0 (HND.out.below HEI.out.bel) (HBV.out.below HEI.out.bel) HEI.out.mx).mono ?_
  rintro e w5 ⟨hb5, v5, rfl, n5, rfl, hn5⟩
  have HEI7 := Lib.hid ((HEI.out.below hb5).below ((Below.refl w5.heap.size w5).alloc (Nat.le_refl _) (.cells #[.int .i64 A1.t, .float .f64 n5, .string (tx A1.s), .bool A1.b] 25)))
  have HG7 : Hid (VB (w5.alloc (.cells #[.int .i64 A1.t, .float .f64 n5, .string (tx A1.s), .bool A1.b] 25)) w5.heap.size (.int .i64 A1.t) (.float .f64 n5) (.string (tx A1.s)) (.bool A1.b)) := Lib.hid (heap_alloc_new _ _)
  have HN5 := Lib.hid hn5
  have hlt5 : w.heap.size + 1 < w5.heap.size := by have := hb5.size; omega
  clear hb5 d0 d1 d2 d3 p0 p1 p2 p3 HEI HKK HND hn5 hlt
  go_upto_region 10 with (fail)
  generalize (w5.alloc (.cells #[.int .i64 A1.t, .float .f64 n5, .string (tx A1.s), .bool A1.b] 25)) = W7 at HEI7 HG7 ⊢
  generalize w5.heap.size = g7 at HG7 hlt5 ⊢
  have hg7 := HG7.out.lt
  have hlt := HEI7.out.r.lt
  have HSS : Hid (∀ W : World, (∀ b, b < W7.heap.size → b ≠ w.heap.size + 1 → W.heap[b]? = W7.heap[b]?) → W.cell? ⟨w.heap.size, 0, none⟩ = some (.string T) ∧ W.cell? ⟨w.heap.size, 3, none⟩ = some (.slice (some a) 2 cap) ∧ W.cell? ⟨g7, 0, none⟩ = some (.int .i64 A1.t) ∧ W.cell? ⟨g7, 1, none⟩ = some (.float .f64 n5) ∧ W.cell? ⟨g7, 2, none⟩ = some (.string (tx A1.s)) ∧ W.cell? ⟨g7, 3, none⟩ = some (.bool A1.b) ∧ W.cell? ⟨a.block, a.off + 4, none⟩ = some (.string o2) ∧ W.cell? ⟨a.block, a.off + 4 + 1, none⟩ = some (.float .f64 n2) ∧ W.cell? ⟨a.block, a.off + 4 + 2, none⟩ = some (.string s2) ∧ W.cell? ⟨a.block, a.off + 4 + 3, none⟩ = some (.slice x2 l2 c2)) := Lib.hid (fun W hW => by
    obtain ⟨p0, p1, p2, p3, _⟩ := HEI7.out.node.cells
    obtain ⟨q0, q1, q2, q3⟩ := HG7.out.cells
    have hnl := HEI7.out.node.lt
    have k1 : W.heap[w.heap.size]? = W7.heap[w.heap.size]? := hW _ hnl (by omega)
    have k2 : W.heap[g7]? = W7.heap[g7]? := hW _ hg7 (by omega)
    have k3 : W.heap[a.block]? = w.heap[a.block]? := (hW _ (by omega) (by omega)).trans (HEI7.out.bel.block _ hab)
    exact ⟨cell_same (a := ⟨w.heap.size, 0, none⟩) k1 p0, cell_same (a := ⟨w.heap.size, 3, none⟩) k1 p3, cell_same (a := ⟨g7, 0, none⟩) k2 q0, cell_same (a := ⟨g7, 1, none⟩) k2 q1, cell_same (a := ⟨g7, 2, none⟩) k2 q2, cell_same (a := ⟨g7, 3, none⟩) k2 q3,
      cell_same (a := ⟨a.block, a.off + 4, none⟩) k3 e4', cell_same (a := ⟨a.block, a.off + 4 + 1, none⟩) k3 e5', cell_same (a := ⟨a.block, a.off + 4 + 2, none⟩) k3 e6', cell_same (a := ⟨a.block, a.off + 4 + 3, none⟩) k3 e7'⟩)
  obtain ⟨p0, p3, q0, q1, q2, q3, d4, d5, d6, d7⟩ := HSS.out W7 (fun _ _ _ => rfl)
  have HS0 := Lib.hid (HSS.out W7.drew (fun _ _ _ => rfl))
  clear e4' e5' e6' e7'
  go_wp2_with fail
  refine wp_region_held (S := (fun w' => w'.cell? ⟨w.heap.size, 0, none⟩ = some (.string T) ∧ w'.cell? ⟨w.heap.size, 3, none⟩ = some (.slice (some a) 2 cap) ∧ w'.cell? ⟨g7, 0, none⟩ = some (.int .i64 A1.t) ∧ w'.cell? ⟨g7, 1, none⟩ = some (.float .f64 n5) ∧ w'.cell? ⟨g7, 2, none⟩ = some (.string (tx A1.s)) ∧ w'.cell? ⟨g7, 3, none⟩ = some (.bool A1.b) ∧ w'.cell? ⟨a.block, a.off + 4, none⟩ = some (.string o2) ∧ w'.cell? ⟨a.block, a.off + 4 + 1, none⟩ = some (.float .f64 n2) ∧ w'.cell? ⟨a.block, a.off + 4 + 2, none⟩ = some (.string s2) ∧ w'.cell? ⟨a.block, a.off + 4 + 3, none⟩ = some (.slice x2 l2 c2))) (by kernel_rfl) ?_
  change wpAnyH _ _ _ _ _ _ _ _ (World.drew _)
  refine wpAnyH_take (i := 0) (v := _) rfl (by kernel_rfl) (by kernel_rfl) (by kernel_rfl) (fun _ _ _ h => h) (Or.inl ⟨by rfl, by intro w hSw; (try dsimp only at hSw); go_simp; try (with_reducible rfl)⟩) HS0.out ?_
  try simp only [Act.put, List.setIfInBounds_toArray]
  refine wpAnyH_take (i := 1) (v := _) rfl (by kernel_rfl) (by kernel_rfl) (by kernel_rfl) (fun _ _ _ h => h) (Or.inl ⟨by rfl, by intro w hSw; (try dsimp only at hSw); go_simp; try (with_reducible rfl)⟩) HS0.out ?_
  try simp only [Act.put]
  refine wpAnyH_take (i := 2) (v := _) rfl (by kernel_rfl) (by kernel_rfl) (by kernel_rfl) (fun _ _ _ h => h) (Or.inl ⟨by rfl, by intro w hSw; (try dsimp only at hSw); go_simp; try (with_reducible rfl)⟩) HS0.out ?_
  try simp only [Act.put]
  refine wpAnyH_take (i := 3) (v := _) rfl (by kernel_rfl) (by kernel_rfl) (by kernel_rfl) (fun _ _ _ h => h) (Or.inl ⟨by rfl, by intro w hSw; (try dsimp only at hSw); go_simp; try (with_reducible rfl)⟩) HS0.out ?_
  try simp only [Act.put]
  refine wpAnyH_take (i := 4) (v := _) rfl (by kernel_rfl) (by kernel_rfl) (by kernel_rfl) (fun _ _ _ h => h) (Or.inl ⟨by rfl, by intro w hSw; (try dsimp only at hSw); go_simp; try (with_reducible rfl)⟩) HS0.out ?_
  try simp only [Act.put]
  refine wpAnyH_take (i := 5) (v := _) rfl (by kernel_rfl) (by kernel_rfl) (by kernel_rfl) (fun _ _ _ h => h) (Or.inl ⟨by rfl, by intro w hSw; (try dsimp only at hSw); go_simp; try (with_reducible rfl)⟩) HS0.out ?_
  try simp only [Act.put]
  refine wpAnyH_take (i := 6) (v := _) rfl (by kernel_rfl) (by kernel_rfl) (by kernel_rfl) (fun _ _ _ h => h) (Or.inl ⟨by rfl, by intro w hSw; (try dsimp only at hSw); go_simp; try (with_reducible rfl)⟩) HS0.out ?_
  try simp only [Act.put]
  refine wpAnyH_take (i := 7) (v := _) rfl (by kernel_rfl) (by kernel_rfl) (by kernel_rfl) (fun _ _ _ h => h) (Or.inl ⟨by rfl, by intro w hSw; (try dsimp only at hSw); go_simp; try (with_reducible rfl)⟩) HS0.out ?_
  try simp only [Act.put]
  refine wpAnyH_ready (rs := [8]) (by kernel_rfl) (by simp) ?_
  refine AllReadyH.cons rfl (fun K hK => ?_) AllReadyH.nil
  go_simp
  go_wp2_with (first | (go_at_call 15; fail))
  have HEI8 := Lib.hid (HEI7.out.below (Below.refl _ _).drew)
  refine (HKK2.out _ W7.drew (HND2.out.below HEI8.out.bel) (HBV.out.below HEI8.out.bel) HEI8.out.mx).mono ?_
  rintro e w8 ⟨hb8, v8, rfl, n8, rfl, hn8⟩
  have HEI9 := Lib.hid (HEI8.out.below hb8)
  have HS8 := Lib.hid (HSS.out w8 (fun b h1 _ => hb8.block b h1))
  have HN8 := Lib.hid hn8
  have HL8 : Hid (∀ b, b < W7.heap.size → b < w8.heap.size ∧ w8.heap[b]? = W7.heap[b]?) := Lib.hid (fun b h => by
    have h1 : W7.heap.size ≤ w8.heap.size := hb8.size
    exact ⟨by omega, hb8.block b h⟩)
  clear hb8 hn8 HEI8 HEI7 HKK2 HND2 HBV
  refine hK.out _ _ HS8.out (fun _ => ?_)
  clear hK K
  try simp only [Act.put, List.setIfInBounds_toArray, List.set_cons_zero, List.set_cons_succ]
  refine wpAnyH_ready (rs := [9]) (by kernel_rfl) (by simp) ?_
  refine AllReadyH.cons rfl (fun K hK => ?_) AllReadyH.nil
  go_simp
  go_wp2_with (first | (go_at_call 25; fail))
  refine (HBO.out _ _ w8 ⟨n5, rfl, HN5.out⟩ ⟨n8, rfl, HN8.out⟩ HEI9.out.mx).mono ?_
  rintro e w9 ⟨hb9, v9, rfl, hv9⟩
  obtain ⟨hz, n9, rfl, hz2, hend⟩ := EI.fin HEI9.out HM.out hv9 hb9
  have HE := Lib.hid (And.intro hz2 hend)
  have HS9 := Lib.hid (HSS.out w9 (fun b h1 _ => (hb9.block b (HL8.out b h1).1).trans (HL8.out b h1).2))
  have HS10 := Lib.hid (fun u0 u1 u2 u3 => HSS.out (putN w9 (w.heap.size + 1) u0 u1 u2 u3) (fun b h1 h2 => (putN_other h2).trans ((hb9.block b (HL8.out b h1).1).trans (HL8.out b h1).2)))
  obtain ⟨k0, k1, k2, k3⟩ := hz.cells
  have f0 := hz.fr 0
  have f1 := hz.fr 1
  have f2 := hz.fr 2
  have f3 := hz.fr 3
  clear hz hz2 hend hb9 hv9
  refine hK.out _ _ HS9.out (fun _ => ?_)
  clear hK K
  try simp only [Act.put, List.setIfInBounds_toArray, List.set_cons_zero, List.set_cons_succ]
  refine wpAnyH_ready (rs := [10]) (by kernel_rfl) (by simp) ?_
  refine AllReadyH.cons rfl (fun K hK => ?_) AllReadyH.nil
  go_simp
  refine hK.out _ _ (HS10.out _ _ _ _) (fun _ => ?_)
  clear hK K
  try simp only [Act.put, List.setIfInBounds_toArray, List.set_cons_zero, List.set_cons_succ]
  refine wpAnyH_done (by kernel_rfl) ?_ _
  go_wp2
  exact bodyPost_ret (val_res rfl _ _ (w.heap.size + 1) _ _ _ _ rfl HE.out.1) rfl HE.out.2
/-- The value of a tree that has a type. -/
theorem weval (L : List Bnd) (hLL : L.length ≤ 1000000) (hLS : ∀ b ∈ L, b.v.s.length ≤ 900000) (vb : Value) (m : Int) : ∀ (n : Nat) (t : Tree), szT t ≤ n → (tyT L t).2 = 0 → txT 900000 t → ∀ (A : Nat → Prop) (v : Value) (w : World), NodeV A w v t → BndV w vb L → MaxLn m w →
    Calls Try.prog 15 #[v, vb] w (VEnd (evT clN L t) w) := by
  intro n
  induction n with
  | zero => intro t h; cases t; simp only [szT] at h; omega
  | succ n ih =>
    intro t hn hty htx A v w hv hbv hm
    obtain ⟨op, fn, s, l⟩ := t
    by_cases hop : op = wnum ∨ op = wtext ∨ op = wname
    · exact weval_leaf L hLL vb op s fn l hty hop A v m w hv hbv hm
    · obtain ⟨h1, h2, _⟩ := ty_ok hty
      have hszl : szL l ≤ n := by simp only [szT] at hn; omega
      rcases takes_12 h1 (fun e => hop (.inl e)) (fun e => hop (.inr (.inl e))) (fun e => hop (.inr (.inr e))) with ⟨hl, ho⟩ | ⟨hl, g0, g1, g2, g3⟩
      · match l, hl with
        | [t0], _ =>
          simp only [szL] at hszl
          have k0 : txT 900000 t0 := htx.2.1
          exact weval_one L vb op s fn t0 (fun e => hop (.inl e)) (fun e => hop (.inr (.inl e))) (fun e => hop (.inr (.inr e))) ho A v m w hbv hm (ev_len clN hLS k0) (fun v W a b c => ih t0 (by omega) (h2 0 (by simp)) k0 A v W a b c) hv
      · match l, hl with
        | [t0, t1], _ =>
          simp only [szL] at hszl
          have k0 : txT 900000 t0 := htx.2.1
          have k1 : txT 900000 t1 := htx.2.2.1
          exact weval_two L vb op s fn t0 t1 (fun e => hop (.inl e)) (fun e => hop (.inr (.inl e))) (fun e => hop (.inr (.inr e))) g0 g1 g2 g3 h1 A v m w hbv hm (ev_len clN hLS k0) (fun v W a b c => ih t0 (by omega) (h2 0 (by simp)) k0 A v W a b c) (fun v W a b c => ih t1 (by omega) (h2 1 (by simp)) k1 A v W a b c) hv
end Go.Proofs.Ytmhfnpabgkkjaaa
/- The texts in what is parsed are not longer than the text; plain. -/
namespace Go.Proofs.Ytmhfnpabgkkjaaa
open Go.RowKit Go.Shelf
def TK (k : Nat) (ts : List Tok) : Prop := ∀ t ∈ ts, t.s.length ≤ k
theorem TK.tail {k : Nat} {t : Tok} {r : List Tok} (h : TK k (t :: r)) : TK k r := fun u hu => h u (by simp [hu])
theorem TK.head {k : Nat} {t : Tok} {r : List Tok} (h : TK k (t :: r)) : t.s.length ≤ k := h t (by simp)
theorem adv_tk {ok : Bool} {ts r : List Tok} {k : Nat} (h : adv ok ts = some r) (hk : TK k ts) : TK k r := by
  unfold adv at h
  split at h
  · cases h
  · split at h
    · cases h
    · cases h; exact hk.tail
theorem must_tk {ok : Bool} {s : Bs} {ts r : List Tok} {k : Nat} (h : must ok s ts = some r) (hk : TK k ts) : TK k r := by
  unfold must at h
  split at h
  · exact adv_tk h hk
  · cases h
theorem tx_two {k : Nat} {op : Bs} {a b : Tree} (ha : txT k a) (hb : txT k b) : txT k (two op a b) := ⟨Nat.zero_le k, ha, hb, trivial⟩
theorem tx_one {k : Nat} {op : Bs} {a : Tree} (ha : txT k a) : txT k (one op a) := ⟨Nat.zero_le k, ha, trivial⟩
theorem tx_leaf {k : Nat} {op s : Bs} {n : Nat} (h : s.length ≤ k) : txT k (.mk op n s []) := ⟨h, trivial⟩
def TxC (k : Nat) (R : List Tok → Option (Tree × List Tok)) : Prop := ∀ ts a r, R ts = some (a, r) → TK k ts → txT k a ∧ TK k r
theorem inside_tx {k : Nat} {ok : Bool} {R : List Tok → Option (Tree × List Tok)} {ts r : List Tok} {a : Tree} (hR : TxC k R) (h : inside ok R ts = some (a, r)) (hk : TK k ts) : txT k a ∧ TK k r := by
  unfold inside at h
  split at h
  · cases h
  · rename_i t1 h1
    split at h
    · cases h
    · rename_i a2 t2 h2
      split at h
      · cases h
      · rename_i t3 h3
        cases h
        have g := hR _ _ _ h2 (must_tk h1 hk)
        exact ⟨g.1, must_tk h3 g.2⟩
theorem hasP_tx {k : Nat} {ok : Bool} {R : List Tok → Option (Tree × List Tok)} {ts r : List Tok} {a : Tree} (hR : TxC k R) (h : hasP ok R ts = some (a, r)) (hk : TK k ts) : txT k a ∧ TK k r := by
  unfold hasP at h
  split at h
  · cases h
  · rename_i t1 h1
    split at h
    · cases h
    · rename_i a2 t2 h2
      split at h
      · cases h
      · rename_i t3 h3
        split at h
        · cases h
        · rename_i b t4 h4
          split at h
          · cases h
          · rename_i t5 h5
            cases h
            have g := hR _ _ _ h2 (must_tk h1 hk)
            have g2 := hR _ _ _ h4 (must_tk h3 g.2)
            exact ⟨tx_two g.1 g2.1, must_tk h5 g2.2⟩
def Mode.tx (k : Nat) : Mode → Prop
  | .orT t | .andT t | .sumT t | .prodT t => txT k t
  | _ => True
theorem P_tx (V : Bs → Nat) (ok : Bool) (k : Nat) : ∀ (n : Nat) (m : Mode) (ts : List Tok) (a : Tree) (r : List Tok), P V ok n m ts = some (a, r) → TK k ts → m.tx k → txT k a ∧ TK k r := by
  intro n
  induction n with
  | zero => intro m ts a r h; cases h
  | succ n ih =>
    have chain : ∀ (m1 : Mode) (m2 : Tree → Mode) (ts r : List Tok) (a : Tree), m1.tx k → (∀ t, txT k t → (m2 t).tx k) → (match P V ok n m1 ts with | none => none | some (a, r) => P V ok n (m2 a) r) = some (a, r) → TK k ts → txT k a ∧ TK k r := by
      intro m1 m2 ts r a hm hm2 h hk
      split at h
      · cases h
      · rename_i b t1 h1
        have g := ih _ _ _ _ h1 hk hm
        exact ih _ _ _ _ h g.2 (hm2 _ g.1)
    have tailr : ∀ (c : Prop) [Decidable c] (m1 : Mode) (m2 : Tree → Mode) (ts r : List Tok) (a x : Tree), m1.tx k → (∀ t, txT k t → (m2 t).tx k) → (if c then (match adv ok ts with | none => none | some t1 => match P V ok n m1 t1 with | none => none | some (b, r) => P V ok n (m2 b) r) else some (x, ts)) = some (a, r) → TK k ts → txT k x → txT k a ∧ TK k r := by
      intro c _ m1 m2 ts r a x hm hm2 h hk hx
      split at h
      · split at h
        · cases h
        · rename_i t1 h1
          split at h
          · cases h
          · rename_i b t2 h2
            have g := ih _ _ _ _ h2 (adv_tk h1 hk) hm
            exact ih _ _ _ _ h g.2 (hm2 _ g.1)
      · cases h; exact ⟨hx, hk⟩
    have hor : TxC k (P V ok n .or) := fun ts a r h hk => ih _ _ _ _ h hk trivial
    intro m ts a r h hk hm
    cases m with
    | or => exact chain .and Mode.orT ts r a trivial (fun _ h => h) (by have h' := h; simp only [P] at h'; exact h') hk
    | and => exact chain .not Mode.andT ts r a trivial (fun _ h => h) (by have h' := h; simp only [P] at h'; exact h') hk
    | sum => exact chain .prod Mode.sumT ts r a trivial (fun _ h => h) (by have h' := h; simp only [P] at h'; exact h') hk
    | prod => exact chain .signed Mode.prodT ts r a trivial (fun _ h => h) (by have h' := h; simp only [P] at h'; exact h') hk
    | orT x => exact tailr _ .and (fun b => Mode.orT (two wor x b)) ts r a x trivial (fun t h => tx_two (op := wor) hm h) (by have h' := h; simp only [P] at h'; exact h') hk hm
    | andT x => exact tailr _ .not (fun b => Mode.andT (two wand x b)) ts r a x trivial (fun t h => tx_two (op := wand) hm h) (by have h' := h; simp only [P] at h'; exact h') hk hm
    | sumT x => exact tailr _ .prod (fun b => Mode.sumT (two ((ts.headD ⟨0, []⟩).s) x b)) ts r a x trivial (fun t h => tx_two (op := ((ts.headD ⟨0, []⟩).s)) hm h) (by have h' := h; simp only [P] at h'; exact h') hk hm
    | prodT x => exact tailr _ .signed (fun b => Mode.prodT (two ((ts.headD ⟨0, []⟩).s) x b)) ts r a x trivial (fun t h => tx_two (op := ((ts.headD ⟨0, []⟩).s)) hm h) (by have h' := h; simp only [P] at h'; exact h') hk hm
    | not =>
      simp only [P] at h
      split at h
      · split at h
        · cases h
        · rename_i t1 h1
          split at h
          · cases h
          · rename_i b t2 h2
            cases h
            have g := ih _ _ _ _ h2 (adv_tk h1 hk) trivial
            exact ⟨tx_one g.1, g.2⟩
      · split at h
        · cases h
        · rename_i b t2 h2
          have g2 := ih _ _ _ _ h2 hk trivial
          split at h
          · cases h; exact g2
          · split at h
            · split at h
              · cases h
              · rename_i t3 h3
                split at h
                · cases h
                · rename_i c t4 h4
                  cases h
                  have g := ih _ _ _ _ h4 (adv_tk h3 g2.2) trivial
                  exact ⟨tx_two g2.1 g.1, g.2⟩
            · cases h; exact g2
    | signed =>
      simp only [P] at h
      split at h
      · split at h
        · cases h
        · rename_i t1 h1
          split at h
          · cases h
          · rename_i b t2 h2
            cases h
            have g := ih _ _ _ _ h2 (adv_tk h1 hk) trivial
            exact ⟨tx_one g.1, g.2⟩
      · exact ih _ _ _ _ h hk trivial
    | atom =>
      cases ts with
      | nil => simp only [P] at h; cases h
      | cons t ts =>
        rw [P_atom] at h
        split at h
        · split at h
          · cases h
          · rename_i t1 h1
            cases h
            exact ⟨tx_leaf (Nat.zero_le k), adv_tk h1 hk⟩
        · split at h
          · split at h
            · cases h
            · rename_i t1 h1
              cases h
              exact ⟨tx_leaf hk.head, adv_tk h1 hk⟩
          · split at h
            · unfold namedP at h
              split at h
              · cases h
              · split at h
                · cases h
                · rename_i t1 h1
                  split at h
                  · split at h
                    · cases h
                    · rename_i b t2 h2
                      cases h
                      have g := inside_tx hor h2 (adv_tk h1 hk)
                      exact ⟨tx_one g.1, g.2⟩
                  · split at h
                    · exact hasP_tx hor h (adv_tk h1 hk)
                    · cases h
                      exact ⟨tx_leaf hk.head, adv_tk h1 hk⟩
            · exact inside_tx hor h hk
theorem lex1_tx {l : Bs} {t : Tok} {n : Nat} (h : lex1 l = some (t, n)) : t.s.length ≤ l.length := by
  cases l with
  | nil => cases h
  | cons c r =>
    simp only [lex1] at h
    split at h
    · split at h
      · cases h; simp only [List.length_take]; omega
      · cases h
    · split at h
      · cases h; simp only [List.length_take]; omega
      · split at h
        · split at h
          · cases h; simp only [List.length_take, List.length_cons]; omega
          · cases h
        · split at h
          · cases h; simp only [List.length_take]; omega
          · split at h
            · cases h; simp only [List.length_take]; omega
            · cases h
theorem lexF_tx : ∀ (n : Nat) (l : Bs), TK l.length (lexF n l).1
  | 0, _ => fun t h => by cases h
  | n + 1, l => by
    simp only [lexF]
    split
    · intro t h; cases h
    · cases hq : lex1 (l.drop (cntBl l)) with
      | none => intro t h; cases h
      | some x =>
        obtain ⟨t, k⟩ := x
        have h1 := lex1_tx hq
        have h2 := lexF_tx n ((l.drop (cntBl l)).drop k)
        intro u hu
        rcases List.mem_cons.1 hu with rfl | hu
        · simp only [List.length_drop] at h1; omega
        · have h3 := h2 u hu
          simp only [List.length_drop] at h3
          omega
theorem parse_tx (l : Bs) : txT l.length (parseP l).1 := by
  have hz : txT l.length zeroT := ⟨Nat.zero_le _, trivial⟩
  unfold parseP
  split
  · exact hz
  · cases hr : readP l with
    | none => exact hz
    | some t =>
      have ht : txT l.length t := by
        unfold readP at hr
        split at hr
        · cases hr
        · split at hr
          · rename_i t2 h2
            cases hr
            exact (P_tx _ _ _ _ _ _ _ _ h2 (lexF_tx _ l) trivial).1
          · cases hr
      simp only
      split
      · exact hz
      · exact ht
theorem parse_sz (l : Bs) : szT (parseP l).1 ≤ l.length + 1 := by
  have hz : szT zeroT ≤ l.length + 1 := by simp [zeroT, szT, szL]
  unfold parseP
  split
  · exact hz
  · cases hr : readP l with
    | none => exact hz
    | some t =>
      have := readP_sz hr
      simp only
      split
      · exact hz
      · show szT t ≤ _; omega
theorem tx_mono {k j : Nat} (h : k ≤ j) : ∀ t : Tree, txT k t → txT j t := by
  have key : ∀ n, ∀ t : Tree, szT t ≤ n → txT k t → txT j t := by
    intro n
    induction n with
    | zero => intro t ht; cases t; simp only [szT] at ht; omega
    | succ n ih =>
      intro t ht hx
      obtain ⟨op, fn, s, l⟩ := t
      have hl : szL l ≤ n := by simp only [szT] at ht; omega
      have hrow : ∀ l : List Tree, szL l ≤ n → txL k l → txL j l := fun l => by
        induction l with
        | nil => intro _ _; trivial
        | cons a r ihl =>
          intro h1 h2
          simp only [szL] at h1
          exact ⟨ih a (by omega) h2.1, ihl (by omega) h2.2⟩
      exact ⟨Nat.le_trans hx.1 h, hrow l hl hx.2⟩
  exact fun t => key _ t (Nat.le_refl _)
end Go.Proofs.Ytmhfnpabgkkjaaa
