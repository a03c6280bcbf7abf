/- Own texts, merged: T6, T7, T8. -/
import Derived.Test.YtmhfnpabgkkjaaaGreatMP40
import Derived.Test.YtmhfnpabgkkjaaaGreatK9
/- Walk: the reference's one; numbers that fit. -/
namespace Go.Proofs.YtmhfnpabgkkjaaaGreat
open Go.RowKit Go.Shelf Ieee
attribute [local go_sem] run_store_float
theorem neg_top {n : Nat} (h : n < 2 ^ 64) (hn : isNeg n = true) : n ^^^ 2 ^ 63 = n % 2 ^ 63 := by
  have h1 : 2 ^ 63 ≤ n := by
    unfold isNeg at hn
    simp only [beq_iff_eq] at hn
    omega
  obtain ⟨y, rfl⟩ : ∃ y, n = y + 2 ^ 63 := ⟨n - 2 ^ 63, by omega⟩
  have hy : y < 2 ^ 63 := by omega
  have e : (y + 2 ^ 63) % 2 ^ 63 = y := by omega
  rw [e]
  apply Nat.eq_of_testBit_eq
  intro i
  rw [Nat.testBit_xor, Nat.add_comm]
  rcases Nat.lt_trichotomy i 63 with hi | hi | hi
  · rw [Nat.testBit_two_pow_add_gt hi, Nat.testBit_two_pow_of_ne (by omega)]; simp
  · subst hi; rw [Nat.testBit_two_pow_add_eq, Nat.testBit_two_pow_self, Nat.testBit_lt_two_pow hy]; rfl
  · have h1 : (2 ^ 63 + y).testBit i = false := Nat.testBit_lt_two_pow (Nat.lt_of_lt_of_le (show 2 ^ 63 + y < 2 ^ 64 by omega) (Nat.pow_le_pow_right (by omega) hi))
    have h2 : y.testBit i = false := Nat.testBit_lt_two_pow (Nat.lt_of_lt_of_le hy (Nat.pow_le_pow_right (by omega) (by omega)))
    rw [h1, h2, Nat.testBit_two_pow_of_ne (by omega)]; rfl
theorem sv_zero : sv 0 = 0 := by decide
theorem rung_zero {n : Nat} (h : valN (rung n) = 0) : n % 2 ^ 63 = 0 := by
  rw [← valN_zero] at h
  exact valN_inj h
/-- What the reference makes of a number without its sign. -/
theorem abs_lt {n : Nat} (hn : isNan n = false) (h : n < 2 ^ 64) (ho : (double.order n 0 == some .lt) = true) : absR n = n % 2 ^ 63 := by
  rw [order_val n 0 hn (by decide), sv_zero] at ho
  have h1 : sv n < 0 := by
    have h2 : compare (sv n) 0 = .lt := by simpa using ho
    exact Int.compare_eq_lt.1 h2
  have h3 : isNeg n = true := by
    unfold sv at h1
    split at h1
    · assumption
    · omega
  unfold absR
  rw [if_neg (by
    rw [order_val n 0 hn (by decide), sv_zero]
    have h2 : compare (sv n) 0 = .lt := by simpa using ho
    rw [h2]; decide)]
  exact neg_top h h3
theorem abs_eq {n : Nat} (hn : isNan n = false) (ho : (double.order n 0 == some .eq) = true) : absR n = n % 2 ^ 63 := by
  have h0 := ho
  rw [order_val n 0 hn (by decide), sv_zero] at ho
  have h1 : sv n = 0 := by
    have h2 : compare (sv n) 0 = .eq := by simpa using ho
    exact Int.compare_eq_eq.1 h2
  unfold absR
  rw [if_pos h0]
  unfold sv at h1
  split at h1
  · exact (rung_zero (by omega)).symm
  · exact (rung_zero (by omega)).symm
theorem abs_gt {n : Nat} (hn : isNan n = false) (h : n < 2 ^ 64) (h1 : (double.order n 0 == some .lt) = false) (h2 : (double.order n 0 == some .eq) = false) : n = n % 2 ^ 63 := by
  rw [order_val n 0 hn (by decide), sv_zero] at h1 h2
  have h3 : isNeg n = false := by
    cases hq : isNeg n
    · rfl
    · have h4 : sv n ≤ 0 := by unfold sv; rw [if_pos hq]; omega
      rcases Int.lt_or_eq_of_le h4 with h5 | h5
      · rw [Int.compare_eq_lt.2 h5] at h1; cases h1
      · rw [Int.compare_eq_eq.2 h5] at h2; cases h2
  unfold isNeg at h3
  have h4 : ¬ n / 2 ^ 63 % 2 = 1 := by simpa using h3
  omega
end Go.Proofs.YtmhfnpabgkkjaaaGreat
/- Walk: the reference's one. -/
namespace Go.Proofs.YtmhfnpabgkkjaaaGreat
open Go.RowKit Go.Shelf Ieee
attribute [local go_sem] run_store_float
/-- What one holds: its part and its result's variable. -/
structure OI (w : World) (t n s b : Value) (W : World) : Prop where
  a : VB W w.heap.size t n s b
  r : VB W (w.heap.size + 1) (.int .i64 0) (.float .f64 0) (.string ⟨#[]⟩) (.bool false)
  bel : Below w.heap.size w W
theorem OI.start (w : World) (t n s b : Value) : OI w t n s b ((w.alloc (.cells #[t, n, s, b] 40)).alloc (.cells #[.int .i64 0, .float .f64 0, .string ⟨#[]⟩, .bool false] 40)) := by
  have h2 : VB ((w.alloc (.cells #[t, n, s, b] 40)).alloc (.cells #[.int .i64 0, .float .f64 0, .string ⟨#[]⟩, .bool false] 40)) (w.heap.size + 1) (.int .i64 0) (.float .f64 0) (.string ⟨#[]⟩) (.bool false) := by
    have := heap_alloc_new (w.alloc (.cells #[t, n, s, b] 40)) (.cells #[.int .i64 0, .float .f64 0, .string ⟨#[]⟩, .bool false] 40)
    simpa [VB] using this
  exact ⟨(show VB (w.alloc (.cells #[t, n, s, b] 40)) w.heap.size _ _ _ _ from heap_alloc_new _ _).below ((Below.refl _ _).alloc (Nat.le_refl _) _), h2, ((Below.refl _ _).alloc (Nat.le_refl _) _).alloc (by simp) _⟩
theorem OI.below {w : World} {t n s b : Value} {W W' : World} (h : OI w t n s b W) (hb : Below W.heap.size W W') : OI w t n s b W' :=
  ⟨h.a.below hb, h.r.below hb, h.bel.trans (below_le hb h.bel.size)⟩
theorem OI.fin {w : World} {t n s b : Value} {W W' : World} (h : OI w t n s b W) {A B : Av} (hAB : B = A) {v : Value} (hv : ValV v A) (hb : Below W.heap.size W W') :
    VB W' (w.heap.size + 1) (.int .i64 0) (.float .f64 0) (.string ⟨#[]⟩) (.bool false) ∧ ∃ n, v = .agg #[.int .i64 A.t, .float .f64 n, .string (tx A.s), .bool A.b] ∧
      VB (putN W' (w.heap.size + 1) (.int .i64 A.t) (.float .f64 n) (.string (tx A.s)) (.bool A.b)) (w.heap.size + 1) (.int .i64 A.t) (.float .f64 n) (.string (tx A.s)) (.bool A.b) ∧
      VEnd B w (.returned (.agg #[.int .i64 A.t, .float .f64 n, .string (tx A.s), .bool A.b])) (putN W' (w.heap.size + 1) (.int .i64 A.t) (.float .f64 n) (.string (tx A.s)) (.bool A.b)) := by
  obtain ⟨n, rfl, hn⟩ := hv
  have h2 := h.below hb
  subst hAB
  exact ⟨h2.r, n, rfl, h2.r.put, below_put h2.bel (by omega), _, rfl, n, rfl, hn⟩
set_option maxRecDepth 100000 in
set_option maxHeartbeats 8000000 in
theorem roneV (op : Bs) (ho : op = wnot ∨ op = wneg ∨ op = wabs ∨ op = wlen) (va : Value) (a : Av) (hs : a.s.length ≤ 900000) (hn : ∀ x, a.n = some x → x < 2 ^ 64) (w : World) (ha : ValV va a) : Calls Tryz.prog 45 #[.string (tx op), va] w (VEnd (oneA clN op a) w) := by
  obtain ⟨n5, rfl, h1⟩ := ha
  have HN5 := Lib.hid h1
  have HNB := Lib.hid hn
  have HOI := Lib.hid (OI.start w (.int .i64 a.t) (.float .f64 n5) (.string (tx a.s)) (.bool a.b))
  have HNM := Lib.hid (fun c W => rnumV c W)
  have HTR := Lib.hid (fun c W => rtrulyV c W)
  have HCT := Lib.hid (fun W => rcut a.s hs W)
  have HOP := Lib.hid ho
  obtain ⟨T, hT⟩ : ∃ T, T = tx op := ⟨_, rfl⟩
  have HT := Lib.hid hT
  rw [← hT]
  clear h1 hn hs ho hT
  go_enter Tryz.func45, Tryz.ntmps45
  go_upto_region 1 with (fail)
  generalize ((w.alloc (.cells #[.int .i64 a.t, .float .f64 n5, .string (tx a.s), .bool a.b] 40)).alloc (.cells #[.int .i64 0, .float .f64 0, .string ⟨#[]⟩, .bool false] 40)) = W0 at HOI ⊢
  obtain ⟨c0, c1, c2, c3⟩ := HOI.out.a.cells
  have hlt := HOI.out.r.lt
  rcases HOP.out with ho | ho | ho | ho
  · have g0 : (T.toList == [110, 111, 116]) = true := by rw [HT.out, ho]; exact tx_same _
    have HM : Hid (oneA clN op a = avB (!a.b)) := Lib.hid (by rw [ho]; unfold oneA; rw [if_pos (by decide)])
    clear HOP ho HT HN5 HNB HCT
    go_wp2_with (first | (go_at_call 70; fail))
    go_at_call 70
    refine (HTR.out _ _).mono ?_
    rintro e w8 ⟨hb8, v8, rfl, hv8⟩
    obtain ⟨hz, n8, rfl, hz2, hend⟩ := OI.fin HOI.out HM.out hv8 hb8
    have HE := Lib.hid (And.intro hz2 hend)
    obtain ⟨k0, k1, k2, k3⟩ := hz.cells
    have f0 := hz.fr 0
    have f1 := hz.fr 1
    have f2 := hz.fr 2
    have f3 := hz.fr 3
    clear hz hz2 hend hb8 hv8
    go_wp2
    exact bodyPost_ret (val_res rfl _ _ (w.heap.size + 1) _ _ _ _ rfl HE.out.1) rfl HE.out.2
  · have g0 : (T.toList == [110, 111, 116]) = false := by rw [HT.out]; exact tx_ne (by rw [ho]; decide)
    have g1 : (T.toList == [108, 101, 110]) = false := by rw [HT.out]; exact tx_ne (by rw [ho]; decide)
    have g2 : (T.toList == [110, 101, 103]) = true := by rw [HT.out, ho]; exact tx_same _
    have HM : Hid (oneA clN op a = avN (fA (n5 ^^^ 2 ^ 63))) := Lib.hid (by rw [ho]; unfold oneA; rw [if_neg (by decide), if_pos (by decide)]; rw [negA_neg, HN5.out])
    have hU : ∀ W, (Op.unary UnOp.neg (.float .f64 n5)).run Tryz.prog W = .ok (.float .f64 (n5 ^^^ 2 ^ 63)) W := fun _ => rfl
    generalize n5 ^^^ 2 ^ 63 = ng at hU HM
    clear HOP ho HT HN5 HNB HCT
    go_wp2_with (first | (go_at_call 23; fail))
    go_at_call 23
    refine (HNM.out ng _).mono ?_
    rintro e w8 ⟨hb8, v8, rfl, hv8⟩
    obtain ⟨hz, n8, rfl, hz2, hend⟩ := OI.fin HOI.out HM.out hv8 hb8
    have HE := Lib.hid (And.intro hz2 hend)
    obtain ⟨k0, k1, k2, k3⟩ := hz.cells
    have f0 := hz.fr 0
    have f1 := hz.fr 1
    have f2 := hz.fr 2
    have f3 := hz.fr 3
    clear hz hz2 hend hb8 hv8
    go_wp2
    exact bodyPost_ret (val_res rfl _ _ (w.heap.size + 1) _ _ _ _ rfl HE.out.1) rfl HE.out.2
  · have g0 : (T.toList == [110, 111, 116]) = false := by rw [HT.out]; exact tx_ne (by rw [ho]; decide)
    have g1 : (T.toList == [108, 101, 110]) = false := by rw [HT.out]; exact tx_ne (by rw [ho]; decide)
    have g2 : (T.toList == [110, 101, 103]) = false := by rw [HT.out]; exact tx_ne (by rw [ho]; decide)
    have hM : oneA clN op a = avN (absA (fA n5)) := by rw [ho]; unfold oneA; rw [if_neg (by decide), if_neg (by decide), if_pos (by decide)]; rw [HN5.out]
    have HAB := Lib.hid (fun W => rabsF n5 W)
    cases hx : isNan n5
    · have hlt5 : n5 < 2 ^ 64 := HNB.out n5 (by rw [← HN5.out, fA_num hx])
      cases o1 : (FloatKind.f64.format.order n5 0 == some .lt)
      · cases o2 : (FloatKind.f64.format.order n5 0 == some .eq)
        · have HM : Hid (oneA clN op a = avN (fA n5)) := Lib.hid (by rw [hM, ← absA_abs, ← abs_gt hx hlt5 o1 o2])
          clear HOP ho HT HN5 HNB HCT hM hx hlt5 HAB
          go_wp2_with (first | (go_at_call 23; fail))
          go_at_call 23
          refine (HNM.out _ _).mono ?_
          rintro e w8 ⟨hb8, v8, rfl, hv8⟩
          obtain ⟨hz, n8, rfl, hz2, hend⟩ := OI.fin HOI.out HM.out hv8 hb8
          have HE := Lib.hid (And.intro hz2 hend)
          obtain ⟨k0, k1, k2, k3⟩ := hz.cells
          have f0 := hz.fr 0
          have f1 := hz.fr 1
          have f2 := hz.fr 2
          have f3 := hz.fr 3
          clear hz hz2 hend hb8 hv8
          go_wp2
          exact bodyPost_ret (val_res rfl _ _ (w.heap.size + 1) _ _ _ _ rfl HE.out.1) rfl HE.out.2
        · have HM : Hid (oneA clN op a = avN (fA (absR n5))) := Lib.hid (by rw [hM, ← absA_abs, abs_eq hx o2])
          clear HOP ho HT HN5 HNB HCT hM hx hlt5
          go_wp2_with (first | (go_at_call 72; refine (HAB.out _).mono ?_; rintro e w6 ⟨rfl, rfl⟩) | (go_at_call 23; fail))
          go_at_call 23
          refine (HNM.out _ _).mono ?_
          rintro e w8 ⟨hb8, v8, rfl, hv8⟩
          obtain ⟨hz, n8, rfl, hz2, hend⟩ := OI.fin HOI.out HM.out hv8 hb8
          have HE := Lib.hid (And.intro hz2 hend)
          obtain ⟨k0, k1, k2, k3⟩ := hz.cells
          have f0 := hz.fr 0
          have f1 := hz.fr 1
          have f2 := hz.fr 2
          have f3 := hz.fr 3
          clear hz hz2 hend hb8 hv8
          go_wp2
          exact bodyPost_ret (val_res rfl _ _ (w.heap.size + 1) _ _ _ _ rfl HE.out.1) rfl HE.out.2
      · have HM : Hid (oneA clN op a = avN (fA (absR n5))) := Lib.hid (by rw [hM, ← absA_abs, abs_lt hx hlt5 o1])
        clear HOP ho HT HN5 HNB HCT hM hx hlt5
        go_wp2_with (first | (go_at_call 72; refine (HAB.out _).mono ?_; rintro e w6 ⟨rfl, rfl⟩) | (go_at_call 23; fail))
        go_at_call 23
        refine (HNM.out _ _).mono ?_
        rintro e w8 ⟨hb8, v8, rfl, hv8⟩
        obtain ⟨hz, n8, rfl, hz2, hend⟩ := OI.fin HOI.out HM.out hv8 hb8
        have HE := Lib.hid (And.intro hz2 hend)
        obtain ⟨k0, k1, k2, k3⟩ := hz.cells
        have f0 := hz.fr 0
        have f1 := hz.fr 1
        have f2 := hz.fr 2
        have f3 := hz.fr 3
        clear hz hz2 hend hb8 hv8
        go_wp2
        exact bodyPost_ret (val_res rfl _ _ (w.heap.size + 1) _ _ _ _ rfl HE.out.1) rfl HE.out.2
    · have o1 : (FloatKind.f64.format.order n5 0 == some .lt) = false := by rw [show FloatKind.f64.format = double from rfl, order_nan n5 0 (.inl hx)]; rfl
      have o2 : (FloatKind.f64.format.order n5 0 == some .eq) = false := by rw [show FloatKind.f64.format = double from rfl, order_nan n5 0 (.inl hx)]; rfl
      have HM : Hid (oneA clN op a = avN (fA n5)) := Lib.hid (by rw [hM, fA_nan hx]; rfl)
      clear HOP ho HT HN5 HNB HCT hM hx HAB
      go_wp2_with (first | (go_at_call 23; fail))
      go_at_call 23
      refine (HNM.out _ _).mono ?_
      rintro e w8 ⟨hb8, v8, rfl, hv8⟩
      obtain ⟨hz, n8, rfl, hz2, hend⟩ := OI.fin HOI.out HM.out hv8 hb8
      have HE := Lib.hid (And.intro hz2 hend)
      obtain ⟨k0, k1, k2, k3⟩ := hz.cells
      have f0 := hz.fr 0
      have f1 := hz.fr 1
      have f2 := hz.fr 2
      have f3 := hz.fr 3
      clear hz hz2 hend hb8 hv8
      go_wp2
      exact bodyPost_ret (val_res rfl _ _ (w.heap.size + 1) _ _ _ _ rfl HE.out.1) rfl HE.out.2
  · have g0 : (T.toList == [110, 111, 116]) = false := by rw [HT.out]; exact tx_ne (by rw [ho]; decide)
    have g1 : (T.toList == [108, 101, 110]) = true := by rw [HT.out, ho]; exact tx_same _
    have HM : Hid (oneA clN op a = avN (fA (floatOfInt .f64 ((clN a.s : Nat) : Int)))) := Lib.hid (by rw [ho]; unfold oneA; rw [if_neg (by decide), if_neg (by decide), if_neg (by decide)]; rw [of_int])
    clear HOP ho HT HN5 HNB
    go_wp2_with (first | (go_at_call 71; fail))
    go_at_call 71
    refine (HCT.out _).mono ?_
    rintro e w6 ⟨v6, rfl, hrow, hb6⟩
    obtain ⟨x6, c6, rfl⟩ := ownsRow_is hrow
    rw [show clN a.s = (cutS a.s).length from rfl] at HM
    have HOI6 := Lib.hid (HOI.out.below hb6)
    generalize (cutS a.s).length = CL at HM ⊢
    clear hrow hb6 HCT
    go_wp2_with (first | (go_at_call 23; fail))
    go_at_call 23
    refine (HNM.out _ _).mono ?_
    rintro e w8 ⟨hb8, v8, rfl, hv8⟩
    obtain ⟨hz, n8, rfl, hz2, hend⟩ := OI.fin HOI6.out HM.out hv8 hb8
    have HE := Lib.hid (And.intro hz2 hend)
    obtain ⟨k0, k1, k2, k3⟩ := hz.cells
    have f0 := hz.fr 0
    have f1 := hz.fr 1
    have f2 := hz.fr 2
    have f3 := hz.fr 3
    clear hz hz2 hend hb8 hv8
    go_wp2
    exact bodyPost_ret (val_res rfl _ _ (w.heap.size + 1) _ _ _ _ rfl HE.out.1) rfl HE.out.2
end Go.Proofs.YtmhfnpabgkkjaaaGreat
/- Walk: the reference's both (S9's text turned). -/
namespace Go.Proofs.YtmhfnpabgkkjaaaGreat
open Go.RowKit Go.Shelf Ieee
attribute [local go_sem] run_store_float
set_option maxRecDepth 100000 in
set_option maxHeartbeats 16000000 in
theorem rboth (op : Bs) (hop : takesT op = some 2) (va vb : Value) (a b : Av) (m : Int) (hs : a.s.length ≤ 1000000) (hs2 : b.s.length ≤ 1000000) (w : World) (ha : ValV va a) (hb : ValV vb b) (hm : MaxLn m w) : Calls Tryz.prog 46 #[.string (tx op), va, vb] w (VEnd (twoA op a b) w) := by
  obtain ⟨na, rfl, h1⟩ := ha
  obtain ⟨nb, rfl, h2⟩ := hb
  have HBI := Lib.hid (BI.start hm (.int .i64 a.t) (.float .f64 na) (.string (tx a.s)) (.bool a.b) (.int .i64 b.t) (.float .f64 nb) (.string (tx b.s)) (.bool b.b))
  have HTR := Lib.hid (fun c W => rtrulyV c W)
  have HNM := Lib.hid (fun c W => rnumV c W)
  have HEQ : Hid (∀ W, Calls Tryz.prog 73 #[.agg #[.int .i64 a.t, .float .f64 na, .string (tx a.s), .bool a.b], .agg #[.int .i64 b.t, .float .f64 nb, .string (tx b.s), .bool b.b]] W fun e w' => e = .returned (.bool (eqA a b)) ∧ Below W.heap.size W w') := Lib.hid (fun W => requalV _ _ a b W ⟨na, rfl, h1⟩ ⟨nb, rfl, h2⟩)
  have HCT := Lib.hid (fun W => rstands a.s b.s hs hs2 W)
  obtain ⟨R, hR⟩ : ∃ R, R = twoA op a b := ⟨_, rfl⟩
  rw [← hR]
  have HH1 := Lib.hid h1
  have HH2 := Lib.hid h2
  clear h1 h2 hm
  rcases opcases op with ⟨ho, b0, b1, b2, b3, b4, b5, b6, b7, b8, b9, b10, b11, b12, b13, b14, b15, b16, b17, b18, b19⟩ | ⟨ho, b0, b1, b2, b3, b4, b5, b6, b7, b8, b9, b10, b11, b12, b13, b14, b15, b16, b17, b18, b19⟩ | ⟨ho, b0, b1, b2, b3, b4, b5, b6, b7, b8, b9, b10, b11, b12, b13, b14, b15, b16, b17, b18, b19⟩ | ⟨ho, b0, b1, b2, b3, b4, b5, b6, b7, b8, b9, b10, b11, b12, b13, b14, b15, b16, b17, b18, b19⟩ | ⟨ho, b0, b1, b2, b3, b4, b5, b6, b7, b8, b9, b10, b11, b12, b13, b14, b15, b16, b17, b18, b19⟩ | ⟨ho, b0, b1, b2, b3, b4, b5, b6, b7, b8, b9, b10, b11, b12, b13, b14, b15, b16, b17, b18, b19⟩ | ⟨ho, b0, b1, b2, b3, b4, b5, b6, b7, b8, b9, b10, b11, b12, b13, b14, b15, b16, b17, b18, b19⟩ | ⟨ho, b0, b1, b2, b3, b4, b5, b6, b7, b8, b9, b10, b11, b12, b13, b14, b15, b16, b17, b18, b19⟩ | ⟨ho, b0, b1, b2, b3, b4, b5, b6, b7, b8, b9, b10, b11, b12, b13, b14, b15, b16, b17, b18, b19⟩ | ⟨ho, b0, b1, b2, b3, b4, b5, b6, b7, b8, b9, b10, b11, b12, b13, b14, b15, b16, b17, b18, b19⟩ | ⟨ho, b0, b1, b2, b3, b4, b5, b6, b7, b8, b9, b10, b11, b12, b13, b14, b15, b16, b17, b18, b19⟩ | ⟨ho, b0, b1, b2, b3, b4, b5, b6, b7, b8, b9, b10, b11, b12, b13, b14, b15, b16, b17, b18, b19⟩ | ⟨ho, b0, b1, b2, b3, b4, b5, b6, b7, b8, b9, b10, b11, b12, b13, b14, b15, b16, b17, b18, b19⟩ | ⟨ho, b0, b1, b2, b3, b4, b5, b6, b7, b8, b9, b10, b11, b12, b13, b14, b15, b16, b17, b18, b19⟩ | ⟨ho, b0, b1, b2, b3, b4, b5, b6, b7, b8, b9, b10, b11, b12, b13, b14, b15, b16, b17, b18, b19⟩ | ⟨ho, b0, b1, b2, b3, b4, b5, b6, b7, b8, b9, b10, b11, b12, b13, b14, b15, b16, b17, b18, b19⟩ | ⟨ho, b0, b1, b2, b3, b4, b5, b6, b7, b8, b9, b10, b11, b12, b13, b14, b15, b16, b17, b18, b19⟩ | ⟨ho, b0, b1, b2, b3, b4, b5, b6, b7, b8, b9, b10, b11, b12, b13, b14, b15, b16, b17, b18, b19⟩ | ⟨ho, b0, b1, b2, b3, b4, b5, b6, b7, b8, b9, b10, b11, b12, b13, b14, b15, b16, b17, b18, b19⟩ | ⟨ho, b0, b1, b2, b3, b4, b5, b6, b7, b8, b9, b10, b11, b12, b13, b14, b15, b16, b17, b18, b19⟩ | ⟨ho, b0, b1, b2, b3, b4, b5, b6, b7, b8, b9, b10, b11, b12, b13, b14, b15, b16, b17, b18, b19⟩
  · subst ho; exact absurd hop (by decide)
  · subst ho; exact absurd hop (by decide)
  · subst ho; exact absurd hop (by decide)
  · subst ho; exact absurd hop (by decide)
  · subst ho; exact absurd hop (by decide)
  · subst ho; exact absurd hop (by decide)
  · subst ho; exact absurd hop (by decide)
  · clear hop
    have hM : twoA op a b = avB (a.b || b.b) := by subst ho; unfold twoA; rw [if_pos (by decide)]
    rw [hM] at hR
    clear HCT HEQ HNM HH1 HH2 ho hM hs hs2
    obtain ⟨AB, hAB⟩ : ∃ x, x = a.b := ⟨_, rfl⟩
    obtain ⟨BB, hBB⟩ : ∃ x, x = b.b := ⟨_, rfl⟩
    rw [← hAB, ← hBB] at hR
    rw [← hAB, ← hBB] at HBI
    rw [← hAB, ← hBB]
    clear hAB hBB
    cases AB
    · have HM : Hid (R = avB BB) := Lib.hid (by rw [hR]; rfl)
      clear hR
      generalize tx op = T at *
      generalize a.t = at' at *
      generalize b.t = bt' at *
      generalize tx a.s = as' at *
      generalize tx b.s = bs' at *
      go_enter Tryz.func46, Tryz.ntmps46
      go_upto_region 1 with (fail)
      generalize (((w.alloc (.cells #[.int .i64 at', .float .f64 na, .string as', .bool false] 40)).alloc (.cells #[.int .i64 bt', .float .f64 nb, .string bs', .bool BB] 40)).alloc (.cells #[.int .i64 0, .float .f64 0, .string ⟨#[]⟩, .bool false] 40)) = W0 at HBI ⊢
      obtain ⟨c0, c1, c2, c3⟩ := HBI.out.a.cells
      obtain ⟨d0, d1, d2, d3⟩ := HBI.out.b.cells
      go_wp2_with (first | (go_at_call 70; fail))
      go_at_call 70
      refine (HTR.out _ _).mono ?_
      rintro e w5 ⟨hb5, v5, rfl, hv5⟩
      obtain ⟨hz, n5, rfl, hz2, hend⟩ := BI.fin HBI.out HM.out hv5 hb5
      have HE := Lib.hid (And.intro hz2 hend)
      obtain ⟨k0, k1, k2, k3⟩ := hz.cells
      have f0 := hz.fr 0
      have f1 := hz.fr 1
      have f2 := hz.fr 2
      have f3 := hz.fr 3
      clear hz hz2 hend hb5 hv5
      go_wp2
      exact bodyPost_ret (val_res rfl _ _ (w.heap.size + 2) _ _ _ _ rfl HE.out.1) rfl HE.out.2
    · have HM : Hid (R = avB true) := Lib.hid (by rw [hR]; rfl)
      clear hR
      generalize tx op = T at *
      generalize a.t = at' at *
      generalize b.t = bt' at *
      generalize tx a.s = as' at *
      generalize tx b.s = bs' at *
      go_enter Tryz.func46, Tryz.ntmps46
      go_upto_region 1 with (fail)
      generalize (((w.alloc (.cells #[.int .i64 at', .float .f64 na, .string as', .bool true] 40)).alloc (.cells #[.int .i64 bt', .float .f64 nb, .string bs', .bool BB] 40)).alloc (.cells #[.int .i64 0, .float .f64 0, .string ⟨#[]⟩, .bool false] 40)) = W0 at HBI ⊢
      obtain ⟨c0, c1, c2, c3⟩ := HBI.out.a.cells
      obtain ⟨d0, d1, d2, d3⟩ := HBI.out.b.cells
      go_wp2_with (first | (go_at_call 70; fail))
      go_at_call 70
      refine (HTR.out _ _).mono ?_
      rintro e w5 ⟨hb5, v5, rfl, hv5⟩
      obtain ⟨hz, n5, rfl, hz2, hend⟩ := BI.fin HBI.out HM.out hv5 hb5
      have HE := Lib.hid (And.intro hz2 hend)
      obtain ⟨k0, k1, k2, k3⟩ := hz.cells
      have f0 := hz.fr 0
      have f1 := hz.fr 1
      have f2 := hz.fr 2
      have f3 := hz.fr 3
      clear hz hz2 hend hb5 hv5
      go_wp2
      exact bodyPost_ret (val_res rfl _ _ (w.heap.size + 2) _ _ _ _ rfl HE.out.1) rfl HE.out.2
  · clear hop
    have hM : twoA op a b = avB (a.b && b.b) := by subst ho; unfold twoA; rw [if_neg (by decide), if_pos (by decide)]
    rw [hM] at hR
    clear HCT HEQ HNM HH1 HH2 ho hM hs hs2
    obtain ⟨AB, hAB⟩ : ∃ x, x = a.b := ⟨_, rfl⟩
    obtain ⟨BB, hBB⟩ : ∃ x, x = b.b := ⟨_, rfl⟩
    rw [← hAB, ← hBB] at hR
    rw [← hAB, ← hBB] at HBI
    rw [← hAB, ← hBB]
    clear hAB hBB
    cases AB
    · have HM : Hid (R = avB false) := Lib.hid (by rw [hR]; rfl)
      clear hR
      generalize tx op = T at *
      generalize a.t = at' at *
      generalize b.t = bt' at *
      generalize tx a.s = as' at *
      generalize tx b.s = bs' at *
      go_enter Tryz.func46, Tryz.ntmps46
      go_upto_region 1 with (fail)
      generalize (((w.alloc (.cells #[.int .i64 at', .float .f64 na, .string as', .bool false] 40)).alloc (.cells #[.int .i64 bt', .float .f64 nb, .string bs', .bool BB] 40)).alloc (.cells #[.int .i64 0, .float .f64 0, .string ⟨#[]⟩, .bool false] 40)) = W0 at HBI ⊢
      obtain ⟨c0, c1, c2, c3⟩ := HBI.out.a.cells
      obtain ⟨d0, d1, d2, d3⟩ := HBI.out.b.cells
      go_wp2_with (first | (go_at_call 70; fail))
      go_at_call 70
      refine (HTR.out _ _).mono ?_
      rintro e w5 ⟨hb5, v5, rfl, hv5⟩
      obtain ⟨hz, n5, rfl, hz2, hend⟩ := BI.fin HBI.out HM.out hv5 hb5
      have HE := Lib.hid (And.intro hz2 hend)
      obtain ⟨k0, k1, k2, k3⟩ := hz.cells
      have f0 := hz.fr 0
      have f1 := hz.fr 1
      have f2 := hz.fr 2
      have f3 := hz.fr 3
      clear hz hz2 hend hb5 hv5
      go_wp2
      exact bodyPost_ret (val_res rfl _ _ (w.heap.size + 2) _ _ _ _ rfl HE.out.1) rfl HE.out.2
    · have HM : Hid (R = avB BB) := Lib.hid (by rw [hR]; rfl)
      clear hR
      generalize tx op = T at *
      generalize a.t = at' at *
      generalize b.t = bt' at *
      generalize tx a.s = as' at *
      generalize tx b.s = bs' at *
      go_enter Tryz.func46, Tryz.ntmps46
      go_upto_region 1 with (fail)
      generalize (((w.alloc (.cells #[.int .i64 at', .float .f64 na, .string as', .bool true] 40)).alloc (.cells #[.int .i64 bt', .float .f64 nb, .string bs', .bool BB] 40)).alloc (.cells #[.int .i64 0, .float .f64 0, .string ⟨#[]⟩, .bool false] 40)) = W0 at HBI ⊢
      obtain ⟨c0, c1, c2, c3⟩ := HBI.out.a.cells
      obtain ⟨d0, d1, d2, d3⟩ := HBI.out.b.cells
      go_wp2_with (first | (go_at_call 70; fail))
      go_at_call 70
      refine (HTR.out _ _).mono ?_
      rintro e w5 ⟨hb5, v5, rfl, hv5⟩
      obtain ⟨hz, n5, rfl, hz2, hend⟩ := BI.fin HBI.out HM.out hv5 hb5
      have HE := Lib.hid (And.intro hz2 hend)
      obtain ⟨k0, k1, k2, k3⟩ := hz.cells
      have f0 := hz.fr 0
      have f1 := hz.fr 1
      have f2 := hz.fr 2
      have f3 := hz.fr 3
      clear hz hz2 hend hb5 hv5
      go_wp2
      exact bodyPost_ret (val_res rfl _ _ (w.heap.size + 2) _ _ _ _ rfl HE.out.1) rfl HE.out.2
  · clear hop
    have hM : twoA op a b = avB (Lib.contains a.s b.s) := by subst ho; unfold twoA; rw [if_neg (by decide), if_neg (by decide), if_pos (by decide)]
    have HM : Hid (R = avB (Lib.contains a.s b.s)) := Lib.hid (hR.trans hM)
    clear HEQ HNM HH1 HH2 ho hM hR hs hs2
    generalize Lib.contains a.s b.s = CC at HM HCT
    generalize tx op = T at *
    generalize a.t = at' at *
    generalize b.t = bt' at *
    generalize tx a.s = as' at *
    generalize tx b.s = bs' at *
    generalize a.b = ab' at *
    generalize b.b = bb' at *
    go_enter Tryz.func46, Tryz.ntmps46
    go_upto_region 1 with (fail)
    generalize (((w.alloc (.cells #[.int .i64 at', .float .f64 na, .string as', .bool ab'] 40)).alloc (.cells #[.int .i64 bt', .float .f64 nb, .string bs', .bool bb'] 40)).alloc (.cells #[.int .i64 0, .float .f64 0, .string ⟨#[]⟩, .bool false] 40)) = W0 at HBI ⊢
    obtain ⟨c0, c1, c2, c3⟩ := HBI.out.a.cells
    obtain ⟨d0, d1, d2, d3⟩ := HBI.out.b.cells
    go_wp2_with (first | (go_at_call 74; refine (HCT.out _).mono ?_; rintro e w4 ⟨rfl, rfl⟩) | (go_at_call 70; fail))
    go_at_call 70
    refine (HTR.out _ _).mono ?_
    rintro e w5 ⟨hb5, v5, rfl, hv5⟩
    obtain ⟨hz, n5, rfl, hz2, hend⟩ := BI.fin HBI.out HM.out hv5 hb5
    have HE := Lib.hid (And.intro hz2 hend)
    obtain ⟨k0, k1, k2, k3⟩ := hz.cells
    have f0 := hz.fr 0
    have f1 := hz.fr 1
    have f2 := hz.fr 2
    have f3 := hz.fr 3
    clear hz hz2 hend hb5 hv5
    go_wp2
    exact bodyPost_ret (val_res rfl _ _ (w.heap.size + 2) _ _ _ _ rfl HE.out.1) rfl HE.out.2
  · clear hop
    have hM : twoA op a b = avB (eqA a b) := by subst ho; unfold twoA; rw [if_neg (by decide), if_neg (by decide), if_neg (by decide), if_pos (by decide)]
    have HM : Hid (R = avB (eqA a b)) := Lib.hid (hR.trans hM)
    clear HCT HNM HH1 HH2 ho hM hR hs hs2
    generalize eqA a b = CC at HM HEQ
    generalize tx op = T at *
    generalize a.t = at' at *
    generalize b.t = bt' at *
    generalize tx a.s = as' at *
    generalize tx b.s = bs' at *
    generalize a.b = ab' at *
    generalize b.b = bb' at *
    go_enter Tryz.func46, Tryz.ntmps46
    go_upto_region 1 with (fail)
    generalize (((w.alloc (.cells #[.int .i64 at', .float .f64 na, .string as', .bool ab'] 40)).alloc (.cells #[.int .i64 bt', .float .f64 nb, .string bs', .bool bb'] 40)).alloc (.cells #[.int .i64 0, .float .f64 0, .string ⟨#[]⟩, .bool false] 40)) = W0 at HBI ⊢
    obtain ⟨c0, c1, c2, c3⟩ := HBI.out.a.cells
    obtain ⟨d0, d1, d2, d3⟩ := HBI.out.b.cells
    go_wp2_with (first | (go_at_call 73; fail))
    refine (HEQ.out _).mono ?_
    rintro e w4 ⟨rfl, hb4⟩
    have HB4 := Lib.hid (HBI.out.below hb4)
    clear hb4
    go_wp2_with (first | (go_at_call 70; fail))
    go_at_call 70
    refine (HTR.out _ _).mono ?_
    rintro e w5 ⟨hb5, v5, rfl, hv5⟩
    obtain ⟨hz, n5, rfl, hz2, hend⟩ := BI.fin HB4.out HM.out hv5 hb5
    have HE := Lib.hid (And.intro hz2 hend)
    obtain ⟨k0, k1, k2, k3⟩ := hz.cells
    have f0 := hz.fr 0
    have f1 := hz.fr 1
    have f2 := hz.fr 2
    have f3 := hz.fr 3
    clear hz hz2 hend hb5 hv5
    go_wp2
    exact bodyPost_ret (val_res rfl _ _ (w.heap.size + 2) _ _ _ _ rfl HE.out.1) rfl HE.out.2
  · clear hop
    have hM : twoA op a b = avB (!eqA a b) := by subst ho; unfold twoA; rw [if_neg (by decide), if_neg (by decide), if_neg (by decide), if_neg (by decide), if_pos (by decide)]
    have HM : Hid (R = avB (!eqA a b)) := Lib.hid (hR.trans hM)
    clear HCT HNM HH1 HH2 ho hM hR hs hs2
    generalize eqA a b = CC at HM HEQ
    generalize tx op = T at *
    generalize a.t = at' at *
    generalize b.t = bt' at *
    generalize tx a.s = as' at *
    generalize tx b.s = bs' at *
    generalize a.b = ab' at *
    generalize b.b = bb' at *
    go_enter Tryz.func46, Tryz.ntmps46
    go_upto_region 1 with (fail)
    generalize (((w.alloc (.cells #[.int .i64 at', .float .f64 na, .string as', .bool ab'] 40)).alloc (.cells #[.int .i64 bt', .float .f64 nb, .string bs', .bool bb'] 40)).alloc (.cells #[.int .i64 0, .float .f64 0, .string ⟨#[]⟩, .bool false] 40)) = W0 at HBI ⊢
    obtain ⟨c0, c1, c2, c3⟩ := HBI.out.a.cells
    obtain ⟨d0, d1, d2, d3⟩ := HBI.out.b.cells
    go_wp2_with (first | (go_at_call 73; fail))
    refine (HEQ.out _).mono ?_
    rintro e w4 ⟨rfl, hb4⟩
    have HB4 := Lib.hid (HBI.out.below hb4)
    clear hb4
    go_wp2_with (first | (go_at_call 70; fail))
    go_at_call 70
    refine (HTR.out _ _).mono ?_
    rintro e w5 ⟨hb5, v5, rfl, hv5⟩
    obtain ⟨hz, n5, rfl, hz2, hend⟩ := BI.fin HB4.out HM.out hv5 hb5
    have HE := Lib.hid (And.intro hz2 hend)
    obtain ⟨k0, k1, k2, k3⟩ := hz.cells
    have f0 := hz.fr 0
    have f1 := hz.fr 1
    have f2 := hz.fr 2
    have f3 := hz.fr 3
    clear hz hz2 hend hb5 hv5
    go_wp2
    exact bodyPost_ret (val_res rfl _ _ (w.heap.size + 2) _ _ _ _ rfl HE.out.1) rfl HE.out.2
  · clear hop
    have hM : twoA op a b = avB (cmpA isLt a.n b.n) := by subst ho; unfold twoA; rw [if_neg (by decide), if_neg (by decide), if_neg (by decide), if_neg (by decide), if_neg (by decide), if_pos (by decide)]
    have HM : Hid (R = avB (FloatKind.f64.format.order na nb == some .lt)) := Lib.hid (by rw [hR, hM, isLt_order, HH1.out, HH2.out])
    clear HCT HEQ HNM HH1 HH2 ho hM hR hs hs2
    generalize tx op = T at *
    generalize a.t = at' at *
    generalize b.t = bt' at *
    generalize tx a.s = as' at *
    generalize tx b.s = bs' at *
    generalize a.b = ab' at *
    generalize b.b = bb' at *
    go_enter Tryz.func46, Tryz.ntmps46
    go_upto_region 1 with (fail)
    generalize (((w.alloc (.cells #[.int .i64 at', .float .f64 na, .string as', .bool ab'] 40)).alloc (.cells #[.int .i64 bt', .float .f64 nb, .string bs', .bool bb'] 40)).alloc (.cells #[.int .i64 0, .float .f64 0, .string ⟨#[]⟩, .bool false] 40)) = W0 at HBI ⊢
    obtain ⟨c0, c1, c2, c3⟩ := HBI.out.a.cells
    obtain ⟨d0, d1, d2, d3⟩ := HBI.out.b.cells
    go_wp2_with (first | (go_at_call 70; fail))
    go_at_call 70
    refine (HTR.out _ _).mono ?_
    rintro e w5 ⟨hb5, v5, rfl, hv5⟩
    obtain ⟨hz, n5, rfl, hz2, hend⟩ := BI.fin HBI.out HM.out hv5 hb5
    have HE := Lib.hid (And.intro hz2 hend)
    obtain ⟨k0, k1, k2, k3⟩ := hz.cells
    have f0 := hz.fr 0
    have f1 := hz.fr 1
    have f2 := hz.fr 2
    have f3 := hz.fr 3
    clear hz hz2 hend hb5 hv5
    go_wp2
    exact bodyPost_ret (val_res rfl _ _ (w.heap.size + 2) _ _ _ _ rfl HE.out.1) rfl HE.out.2
  · clear hop
    have hM : twoA op a b = avB (cmpA isLe a.n b.n) := by subst ho; unfold twoA; rw [if_neg (by decide), if_neg (by decide), if_neg (by decide), if_neg (by decide), if_neg (by decide), if_neg (by decide), if_pos (by decide)]
    have HM : Hid (R = avB (FloatKind.f64.format.order na nb == some .lt || FloatKind.f64.format.order na nb == some .eq)) := Lib.hid (by rw [hR, hM, isLe_order, HH1.out, HH2.out])
    clear HCT HEQ HNM HH1 HH2 ho hM hR hs hs2
    generalize tx op = T at *
    generalize a.t = at' at *
    generalize b.t = bt' at *
    generalize tx a.s = as' at *
    generalize tx b.s = bs' at *
    generalize a.b = ab' at *
    generalize b.b = bb' at *
    go_enter Tryz.func46, Tryz.ntmps46
    go_upto_region 1 with (fail)
    generalize (((w.alloc (.cells #[.int .i64 at', .float .f64 na, .string as', .bool ab'] 40)).alloc (.cells #[.int .i64 bt', .float .f64 nb, .string bs', .bool bb'] 40)).alloc (.cells #[.int .i64 0, .float .f64 0, .string ⟨#[]⟩, .bool false] 40)) = W0 at HBI ⊢
    obtain ⟨c0, c1, c2, c3⟩ := HBI.out.a.cells
    obtain ⟨d0, d1, d2, d3⟩ := HBI.out.b.cells
    go_wp2_with (first | (go_at_call 70; fail))
    go_at_call 70
    refine (HTR.out _ _).mono ?_
    rintro e w5 ⟨hb5, v5, rfl, hv5⟩
    obtain ⟨hz, n5, rfl, hz2, hend⟩ := BI.fin HBI.out HM.out hv5 hb5
    have HE := Lib.hid (And.intro hz2 hend)
    obtain ⟨k0, k1, k2, k3⟩ := hz.cells
    have f0 := hz.fr 0
    have f1 := hz.fr 1
    have f2 := hz.fr 2
    have f3 := hz.fr 3
    clear hz hz2 hend hb5 hv5
    go_wp2
    exact bodyPost_ret (val_res rfl _ _ (w.heap.size + 2) _ _ _ _ rfl HE.out.1) rfl HE.out.2
  · clear hop
    have hM : twoA op a b = avB (cmpA isGt a.n b.n) := by subst ho; unfold twoA; rw [if_neg (by decide), if_neg (by decide), if_neg (by decide), if_neg (by decide), if_neg (by decide), if_neg (by decide), if_neg (by decide), if_pos (by decide)]
    have HM : Hid (R = avB (FloatKind.f64.format.order na nb == some .gt)) := Lib.hid (by rw [hR, hM, isGt_order, HH1.out, HH2.out])
    clear HCT HEQ HNM HH1 HH2 ho hM hR hs hs2
    generalize tx op = T at *
    generalize a.t = at' at *
    generalize b.t = bt' at *
    generalize tx a.s = as' at *
    generalize tx b.s = bs' at *
    generalize a.b = ab' at *
    generalize b.b = bb' at *
    go_enter Tryz.func46, Tryz.ntmps46
    go_upto_region 1 with (fail)
    generalize (((w.alloc (.cells #[.int .i64 at', .float .f64 na, .string as', .bool ab'] 40)).alloc (.cells #[.int .i64 bt', .float .f64 nb, .string bs', .bool bb'] 40)).alloc (.cells #[.int .i64 0, .float .f64 0, .string ⟨#[]⟩, .bool false] 40)) = W0 at HBI ⊢
    obtain ⟨c0, c1, c2, c3⟩ := HBI.out.a.cells
    obtain ⟨d0, d1, d2, d3⟩ := HBI.out.b.cells
    go_wp2_with (first | (go_at_call 70; fail))
    go_at_call 70
    refine (HTR.out _ _).mono ?_
    rintro e w5 ⟨hb5, v5, rfl, hv5⟩
    obtain ⟨hz, n5, rfl, hz2, hend⟩ := BI.fin HBI.out HM.out hv5 hb5
    have HE := Lib.hid (And.intro hz2 hend)
    obtain ⟨k0, k1, k2, k3⟩ := hz.cells
    have f0 := hz.fr 0
    have f1 := hz.fr 1
    have f2 := hz.fr 2
    have f3 := hz.fr 3
    clear hz hz2 hend hb5 hv5
    go_wp2
    exact bodyPost_ret (val_res rfl _ _ (w.heap.size + 2) _ _ _ _ rfl HE.out.1) rfl HE.out.2
  · clear hop
    have hM : twoA op a b = avB (cmpA isGe a.n b.n) := by subst ho; unfold twoA; rw [if_neg (by decide), if_neg (by decide), if_neg (by decide), if_neg (by decide), if_neg (by decide), if_neg (by decide), if_neg (by decide), if_neg (by decide), if_pos (by decide)]
    have HM : Hid (R = avB (FloatKind.f64.format.order na nb == some .gt || FloatKind.f64.format.order na nb == some .eq)) := Lib.hid (by rw [hR, hM, isGe_order, HH1.out, HH2.out])
    clear HCT HEQ HNM HH1 HH2 ho hM hR hs hs2
    generalize tx op = T at *
    generalize a.t = at' at *
    generalize b.t = bt' at *
    generalize tx a.s = as' at *
    generalize tx b.s = bs' at *
    generalize a.b = ab' at *
    generalize b.b = bb' at *
    go_enter Tryz.func46, Tryz.ntmps46
    go_upto_region 1 with (fail)
    generalize (((w.alloc (.cells #[.int .i64 at', .float .f64 na, .string as', .bool ab'] 40)).alloc (.cells #[.int .i64 bt', .float .f64 nb, .string bs', .bool bb'] 40)).alloc (.cells #[.int .i64 0, .float .f64 0, .string ⟨#[]⟩, .bool false] 40)) = W0 at HBI ⊢
    obtain ⟨c0, c1, c2, c3⟩ := HBI.out.a.cells
    obtain ⟨d0, d1, d2, d3⟩ := HBI.out.b.cells
    go_wp2_with (first | (go_at_call 70; fail))
    go_at_call 70
    refine (HTR.out _ _).mono ?_
    rintro e w5 ⟨hb5, v5, rfl, hv5⟩
    obtain ⟨hz, n5, rfl, hz2, hend⟩ := BI.fin HBI.out HM.out hv5 hb5
    have HE := Lib.hid (And.intro hz2 hend)
    obtain ⟨k0, k1, k2, k3⟩ := hz.cells
    have f0 := hz.fr 0
    have f1 := hz.fr 1
    have f2 := hz.fr 2
    have f3 := hz.fr 3
    clear hz hz2 hend hb5 hv5
    go_wp2
    exact bodyPost_ret (val_res rfl _ _ (w.heap.size + 2) _ _ _ _ rfl HE.out.1) rfl HE.out.2
  · clear hop
    have hM : twoA op a b = avN (arA double.add a.n b.n) := by subst ho; unfold twoA; rw [if_neg (by decide), if_neg (by decide), if_neg (by decide), if_neg (by decide), if_neg (by decide), if_neg (by decide), if_neg (by decide), if_neg (by decide), if_neg (by decide), if_pos (by decide)]
    clear HCT HEQ HTR hs hs2
    cases hfb : floatBits .add .f64 na nb with
    | none =>
      have HM : Hid (∀ W, R = avN (fA (nanB na nb W))) := Lib.hid (fun W => by rw [hR, hM, arA_none (op := .add) (f := double.add) (fun _ _ => rfl) W hfb, HH1.out, HH2.out])
      have hV : ∀ W, (binOp BinOp.add 23 (.float .f64 na) (.float .f64 nb)).run Tryz.prog W = .ok (.float .f64 (nanB na nb W)) W.drew := fun W => run_float_nan Tryz.prog W .add (.inl rfl) 23 na nb hfb
      clear HH1 HH2 ho hM hR hfb
      generalize tx op = T at *
      generalize a.t = at' at *
      generalize b.t = bt' at *
      generalize tx a.s = as' at *
      generalize tx b.s = bs' at *
      generalize a.b = ab' at *
      generalize b.b = bb' at *
      go_enter Tryz.func46, Tryz.ntmps46
      go_upto_region 1 with (fail)
      generalize (((w.alloc (.cells #[.int .i64 at', .float .f64 na, .string as', .bool ab'] 40)).alloc (.cells #[.int .i64 bt', .float .f64 nb, .string bs', .bool bb'] 40)).alloc (.cells #[.int .i64 0, .float .f64 0, .string ⟨#[]⟩, .bool false] 40)) = W0 at HBI ⊢
      obtain ⟨c0, c1, c2, c3⟩ := HBI.out.a.cells
      obtain ⟨d0, d1, d2, d3⟩ := HBI.out.b.cells
      have HM := Lib.hid (HM.out W0)
      have HB4 := Lib.hid HBI.out.drew
      go_wp2_with (first | (go_at_call 23; fail))
      go_at_call 23
      refine (HNM.out _ _).mono ?_
      rintro e w5 ⟨hb5, v5, rfl, hv5⟩
      obtain ⟨hz, n5, rfl, hz2, hend⟩ := BI.fin HB4.out HM.out hv5 hb5
      have HE := Lib.hid (And.intro hz2 hend)
      obtain ⟨k0, k1, k2, k3⟩ := hz.cells
      have f0 := hz.fr 0
      have f1 := hz.fr 1
      have f2 := hz.fr 2
      have f3 := hz.fr 3
      clear hz hz2 hend hb5 hv5
      go_wp2
      exact bodyPost_ret (val_res rfl _ _ (w.heap.size + 2) _ _ _ _ rfl HE.out.1) rfl HE.out.2
    | some rr =>
      have HM : Hid (R = avN (fA rr)) := Lib.hid (by rw [hR, hM, arA_some (op := .add) (f := double.add) (fun _ _ => rfl) hfb, HH1.out, HH2.out])
      have hV : ∀ W, (binOp BinOp.add 23 (.float .f64 na) (.float .f64 nb)).run Tryz.prog W = .ok (.float .f64 rr) W := fun W => run_float_arith W .add 23 .f64 _ _ _ hfb
      clear HH1 HH2 ho hM hR hfb
      generalize tx op = T at *
      generalize a.t = at' at *
      generalize b.t = bt' at *
      generalize tx a.s = as' at *
      generalize tx b.s = bs' at *
      generalize a.b = ab' at *
      generalize b.b = bb' at *
      go_enter Tryz.func46, Tryz.ntmps46
      go_upto_region 1 with (fail)
      generalize (((w.alloc (.cells #[.int .i64 at', .float .f64 na, .string as', .bool ab'] 40)).alloc (.cells #[.int .i64 bt', .float .f64 nb, .string bs', .bool bb'] 40)).alloc (.cells #[.int .i64 0, .float .f64 0, .string ⟨#[]⟩, .bool false] 40)) = W0 at HBI ⊢
      obtain ⟨c0, c1, c2, c3⟩ := HBI.out.a.cells
      obtain ⟨d0, d1, d2, d3⟩ := HBI.out.b.cells
      go_wp2_with (first | (go_at_call 23; fail))
      go_at_call 23
      refine (HNM.out _ _).mono ?_
      rintro e w5 ⟨hb5, v5, rfl, hv5⟩
      obtain ⟨hz, n5, rfl, hz2, hend⟩ := BI.fin HBI.out HM.out hv5 hb5
      have HE := Lib.hid (And.intro hz2 hend)
      obtain ⟨k0, k1, k2, k3⟩ := hz.cells
      have f0 := hz.fr 0
      have f1 := hz.fr 1
      have f2 := hz.fr 2
      have f3 := hz.fr 3
      clear hz hz2 hend hb5 hv5
      go_wp2
      exact bodyPost_ret (val_res rfl _ _ (w.heap.size + 2) _ _ _ _ rfl HE.out.1) rfl HE.out.2
  · clear hop
    have hM : twoA op a b = avN (arA double.sub a.n b.n) := by subst ho; unfold twoA; rw [if_neg (by decide), if_neg (by decide), if_neg (by decide), if_neg (by decide), if_neg (by decide), if_neg (by decide), if_neg (by decide), if_neg (by decide), if_neg (by decide), if_neg (by decide), if_pos (by decide)]
    clear HCT HEQ HTR hs hs2
    cases hfb : floatBits .sub .f64 na nb with
    | none =>
      have HM : Hid (∀ W, R = avN (fA (nanB na nb W))) := Lib.hid (fun W => by rw [hR, hM, arA_none (op := .sub) (f := double.sub) (fun _ _ => rfl) W hfb, HH1.out, HH2.out])
      have hV : ∀ W, (binOp BinOp.sub 23 (.float .f64 na) (.float .f64 nb)).run Tryz.prog W = .ok (.float .f64 (nanB na nb W)) W.drew := fun W => run_float_nan Tryz.prog W .sub (.inr (.inl rfl)) 23 na nb hfb
      clear HH1 HH2 ho hM hR hfb
      generalize tx op = T at *
      generalize a.t = at' at *
      generalize b.t = bt' at *
      generalize tx a.s = as' at *
      generalize tx b.s = bs' at *
      generalize a.b = ab' at *
      generalize b.b = bb' at *
      go_enter Tryz.func46, Tryz.ntmps46
      go_upto_region 1 with (fail)
      generalize (((w.alloc (.cells #[.int .i64 at', .float .f64 na, .string as', .bool ab'] 40)).alloc (.cells #[.int .i64 bt', .float .f64 nb, .string bs', .bool bb'] 40)).alloc (.cells #[.int .i64 0, .float .f64 0, .string ⟨#[]⟩, .bool false] 40)) = W0 at HBI ⊢
      obtain ⟨c0, c1, c2, c3⟩ := HBI.out.a.cells
      obtain ⟨d0, d1, d2, d3⟩ := HBI.out.b.cells
      have HM := Lib.hid (HM.out W0)
      have HB4 := Lib.hid HBI.out.drew
      go_wp2_with (first | (go_at_call 23; fail))
      go_at_call 23
      refine (HNM.out _ _).mono ?_
      rintro e w5 ⟨hb5, v5, rfl, hv5⟩
      obtain ⟨hz, n5, rfl, hz2, hend⟩ := BI.fin HB4.out HM.out hv5 hb5
      have HE := Lib.hid (And.intro hz2 hend)
      obtain ⟨k0, k1, k2, k3⟩ := hz.cells
      have f0 := hz.fr 0
      have f1 := hz.fr 1
      have f2 := hz.fr 2
      have f3 := hz.fr 3
      clear hz hz2 hend hb5 hv5
      go_wp2
      exact bodyPost_ret (val_res rfl _ _ (w.heap.size + 2) _ _ _ _ rfl HE.out.1) rfl HE.out.2
    | some rr =>
      have HM : Hid (R = avN (fA rr)) := Lib.hid (by rw [hR, hM, arA_some (op := .sub) (f := double.sub) (fun _ _ => rfl) hfb, HH1.out, HH2.out])
      have hV : ∀ W, (binOp BinOp.sub 23 (.float .f64 na) (.float .f64 nb)).run Tryz.prog W = .ok (.float .f64 rr) W := fun W => run_float_arith W .sub 23 .f64 _ _ _ hfb
      clear HH1 HH2 ho hM hR hfb
      generalize tx op = T at *
      generalize a.t = at' at *
      generalize b.t = bt' at *
      generalize tx a.s = as' at *
      generalize tx b.s = bs' at *
      generalize a.b = ab' at *
      generalize b.b = bb' at *
      go_enter Tryz.func46, Tryz.ntmps46
      go_upto_region 1 with (fail)
      generalize (((w.alloc (.cells #[.int .i64 at', .float .f64 na, .string as', .bool ab'] 40)).alloc (.cells #[.int .i64 bt', .float .f64 nb, .string bs', .bool bb'] 40)).alloc (.cells #[.int .i64 0, .float .f64 0, .string ⟨#[]⟩, .bool false] 40)) = W0 at HBI ⊢
      obtain ⟨c0, c1, c2, c3⟩ := HBI.out.a.cells
      obtain ⟨d0, d1, d2, d3⟩ := HBI.out.b.cells
      go_wp2_with (first | (go_at_call 23; fail))
      go_at_call 23
      refine (HNM.out _ _).mono ?_
      rintro e w5 ⟨hb5, v5, rfl, hv5⟩
      obtain ⟨hz, n5, rfl, hz2, hend⟩ := BI.fin HBI.out HM.out hv5 hb5
      have HE := Lib.hid (And.intro hz2 hend)
      obtain ⟨k0, k1, k2, k3⟩ := hz.cells
      have f0 := hz.fr 0
      have f1 := hz.fr 1
      have f2 := hz.fr 2
      have f3 := hz.fr 3
      clear hz hz2 hend hb5 hv5
      go_wp2
      exact bodyPost_ret (val_res rfl _ _ (w.heap.size + 2) _ _ _ _ rfl HE.out.1) rfl HE.out.2
  · clear hop
    have hM : twoA op a b = avN (arA double.mul a.n b.n) := by subst ho; unfold twoA; rw [if_neg (by decide), if_neg (by decide), if_neg (by decide), if_neg (by decide), if_neg (by decide), if_neg (by decide), if_neg (by decide), if_neg (by decide), if_neg (by decide), if_neg (by decide), if_neg (by decide), if_pos (by decide)]
    clear HCT HEQ HTR hs hs2
    cases hfb : floatBits .mul .f64 na nb with
    | none =>
      have HM : Hid (∀ W, R = avN (fA (nanB na nb W))) := Lib.hid (fun W => by rw [hR, hM, arA_none (op := .mul) (f := double.mul) (fun _ _ => rfl) W hfb, HH1.out, HH2.out])
      have hV : ∀ W, (binOp BinOp.mul 23 (.float .f64 na) (.float .f64 nb)).run Tryz.prog W = .ok (.float .f64 (nanB na nb W)) W.drew := fun W => run_float_nan Tryz.prog W .mul (.inr (.inr (.inl rfl))) 23 na nb hfb
      clear HH1 HH2 ho hM hR hfb
      generalize tx op = T at *
      generalize a.t = at' at *
      generalize b.t = bt' at *
      generalize tx a.s = as' at *
      generalize tx b.s = bs' at *
      generalize a.b = ab' at *
      generalize b.b = bb' at *
      go_enter Tryz.func46, Tryz.ntmps46
      go_upto_region 1 with (fail)
      generalize (((w.alloc (.cells #[.int .i64 at', .float .f64 na, .string as', .bool ab'] 40)).alloc (.cells #[.int .i64 bt', .float .f64 nb, .string bs', .bool bb'] 40)).alloc (.cells #[.int .i64 0, .float .f64 0, .string ⟨#[]⟩, .bool false] 40)) = W0 at HBI ⊢
      obtain ⟨c0, c1, c2, c3⟩ := HBI.out.a.cells
      obtain ⟨d0, d1, d2, d3⟩ := HBI.out.b.cells
      have HM := Lib.hid (HM.out W0)
      have HB4 := Lib.hid HBI.out.drew
      go_wp2_with (first | (go_at_call 23; fail))
      go_at_call 23
      refine (HNM.out _ _).mono ?_
      rintro e w5 ⟨hb5, v5, rfl, hv5⟩
      obtain ⟨hz, n5, rfl, hz2, hend⟩ := BI.fin HB4.out HM.out hv5 hb5
      have HE := Lib.hid (And.intro hz2 hend)
      obtain ⟨k0, k1, k2, k3⟩ := hz.cells
      have f0 := hz.fr 0
      have f1 := hz.fr 1
      have f2 := hz.fr 2
      have f3 := hz.fr 3
      clear hz hz2 hend hb5 hv5
      go_wp2
      exact bodyPost_ret (val_res rfl _ _ (w.heap.size + 2) _ _ _ _ rfl HE.out.1) rfl HE.out.2
    | some rr =>
      have HM : Hid (R = avN (fA rr)) := Lib.hid (by rw [hR, hM, arA_some (op := .mul) (f := double.mul) (fun _ _ => rfl) hfb, HH1.out, HH2.out])
      have hV : ∀ W, (binOp BinOp.mul 23 (.float .f64 na) (.float .f64 nb)).run Tryz.prog W = .ok (.float .f64 rr) W := fun W => run_float_arith W .mul 23 .f64 _ _ _ hfb
      clear HH1 HH2 ho hM hR hfb
      generalize tx op = T at *
      generalize a.t = at' at *
      generalize b.t = bt' at *
      generalize tx a.s = as' at *
      generalize tx b.s = bs' at *
      generalize a.b = ab' at *
      generalize b.b = bb' at *
      go_enter Tryz.func46, Tryz.ntmps46
      go_upto_region 1 with (fail)
      generalize (((w.alloc (.cells #[.int .i64 at', .float .f64 na, .string as', .bool ab'] 40)).alloc (.cells #[.int .i64 bt', .float .f64 nb, .string bs', .bool bb'] 40)).alloc (.cells #[.int .i64 0, .float .f64 0, .string ⟨#[]⟩, .bool false] 40)) = W0 at HBI ⊢
      obtain ⟨c0, c1, c2, c3⟩ := HBI.out.a.cells
      obtain ⟨d0, d1, d2, d3⟩ := HBI.out.b.cells
      go_wp2_with (first | (go_at_call 23; fail))
      go_at_call 23
      refine (HNM.out _ _).mono ?_
      rintro e w5 ⟨hb5, v5, rfl, hv5⟩
      obtain ⟨hz, n5, rfl, hz2, hend⟩ := BI.fin HBI.out HM.out hv5 hb5
      have HE := Lib.hid (And.intro hz2 hend)
      obtain ⟨k0, k1, k2, k3⟩ := hz.cells
      have f0 := hz.fr 0
      have f1 := hz.fr 1
      have f2 := hz.fr 2
      have f3 := hz.fr 3
      clear hz hz2 hend hb5 hv5
      go_wp2
      exact bodyPost_ret (val_res rfl _ _ (w.heap.size + 2) _ _ _ _ rfl HE.out.1) rfl HE.out.2
  · clear hop
    have hM : twoA op a b = avN (arA double.div a.n b.n) := by subst ho; unfold twoA; rw [if_neg (by decide), if_neg (by decide), if_neg (by decide), if_neg (by decide), if_neg (by decide), if_neg (by decide), if_neg (by decide), if_neg (by decide), if_neg (by decide), if_neg (by decide), if_neg (by decide), if_neg (by decide)]
    clear HCT HEQ HTR hs hs2
    cases hfb : floatBits .quo .f64 na nb with
    | none =>
      have HM : Hid (∀ W, R = avN (fA (nanB na nb W))) := Lib.hid (fun W => by rw [hR, hM, arA_none (op := .quo) (f := double.div) (fun _ _ => rfl) W hfb, HH1.out, HH2.out])
      have hV : ∀ W, (binOp BinOp.quo 23 (.float .f64 na) (.float .f64 nb)).run Tryz.prog W = .ok (.float .f64 (nanB na nb W)) W.drew := fun W => run_float_nan Tryz.prog W .quo (.inr (.inr (.inr rfl))) 23 na nb hfb
      clear HH1 HH2 ho hM hR hfb
      generalize tx op = T at *
      generalize a.t = at' at *
      generalize b.t = bt' at *
      generalize tx a.s = as' at *
      generalize tx b.s = bs' at *
      generalize a.b = ab' at *
      generalize b.b = bb' at *
      go_enter Tryz.func46, Tryz.ntmps46
      go_upto_region 1 with (fail)
      generalize (((w.alloc (.cells #[.int .i64 at', .float .f64 na, .string as', .bool ab'] 40)).alloc (.cells #[.int .i64 bt', .float .f64 nb, .string bs', .bool bb'] 40)).alloc (.cells #[.int .i64 0, .float .f64 0, .string ⟨#[]⟩, .bool false] 40)) = W0 at HBI ⊢
      obtain ⟨c0, c1, c2, c3⟩ := HBI.out.a.cells
      obtain ⟨d0, d1, d2, d3⟩ := HBI.out.b.cells
      have HM := Lib.hid (HM.out W0)
      have HB4 := Lib.hid HBI.out.drew
      go_wp2_with (first | (go_at_call 23; fail))
      go_at_call 23
      refine (HNM.out _ _).mono ?_
      rintro e w5 ⟨hb5, v5, rfl, hv5⟩
      obtain ⟨hz, n5, rfl, hz2, hend⟩ := BI.fin HB4.out HM.out hv5 hb5
      have HE := Lib.hid (And.intro hz2 hend)
      obtain ⟨k0, k1, k2, k3⟩ := hz.cells
      have f0 := hz.fr 0
      have f1 := hz.fr 1
      have f2 := hz.fr 2
      have f3 := hz.fr 3
      clear hz hz2 hend hb5 hv5
      go_wp2
      exact bodyPost_ret (val_res rfl _ _ (w.heap.size + 2) _ _ _ _ rfl HE.out.1) rfl HE.out.2
    | some rr =>
      have HM : Hid (R = avN (fA rr)) := Lib.hid (by rw [hR, hM, arA_some (op := .quo) (f := double.div) (fun _ _ => rfl) hfb, HH1.out, HH2.out])
      have hV : ∀ W, (binOp BinOp.quo 23 (.float .f64 na) (.float .f64 nb)).run Tryz.prog W = .ok (.float .f64 rr) W := fun W => run_float_arith W .quo 23 .f64 _ _ _ hfb
      clear HH1 HH2 ho hM hR hfb
      generalize tx op = T at *
      generalize a.t = at' at *
      generalize b.t = bt' at *
      generalize tx a.s = as' at *
      generalize tx b.s = bs' at *
      generalize a.b = ab' at *
      generalize b.b = bb' at *
      go_enter Tryz.func46, Tryz.ntmps46
      go_upto_region 1 with (fail)
      generalize (((w.alloc (.cells #[.int .i64 at', .float .f64 na, .string as', .bool ab'] 40)).alloc (.cells #[.int .i64 bt', .float .f64 nb, .string bs', .bool bb'] 40)).alloc (.cells #[.int .i64 0, .float .f64 0, .string ⟨#[]⟩, .bool false] 40)) = W0 at HBI ⊢
      obtain ⟨c0, c1, c2, c3⟩ := HBI.out.a.cells
      obtain ⟨d0, d1, d2, d3⟩ := HBI.out.b.cells
      go_wp2_with (first | (go_at_call 23; fail))
      go_at_call 23
      refine (HNM.out _ _).mono ?_
      rintro e w5 ⟨hb5, v5, rfl, hv5⟩
      obtain ⟨hz, n5, rfl, hz2, hend⟩ := BI.fin HBI.out HM.out hv5 hb5
      have HE := Lib.hid (And.intro hz2 hend)
      obtain ⟨k0, k1, k2, k3⟩ := hz.cells
      have f0 := hz.fr 0
      have f1 := hz.fr 1
      have f2 := hz.fr 2
      have f3 := hz.fr 3
      clear hz hz2 hend hb5 hv5
      go_wp2
      exact bodyPost_ret (val_res rfl _ _ (w.heap.size + 2) _ _ _ _ rfl HE.out.1) rfl HE.out.2
  · rw [takes_none ho] at hop; cases hop
end Go.Proofs.YtmhfnpabgkkjaaaGreat
