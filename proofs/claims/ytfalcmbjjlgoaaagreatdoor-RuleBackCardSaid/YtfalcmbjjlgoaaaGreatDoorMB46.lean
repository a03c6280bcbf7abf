/- Own texts, merged: RM, X5. -/
import Derived.Test.YtfalcmbjjlgoaaaGreatDoorMB37
import Derived.Test.YtfalcmbjjlgoaaaGreatDoorMB40
import Derived.Test.YtfalcmbjjlgoaaaGreatDoorMB45
/- Walks: the reference's num, sign, Same. -/
namespace Go.Proofs.YtfalcmbjjlgoaaaGreatDoor
open Go.RowKit Go.Shelf Ieee
attribute [local go_sem] run_store_float
def oneB : Nat := 4607182418800017408
/-- Is a number that is 0 below 0: what 1 / x says. -/
def sgN (x : Nat) : Bool := match double.div oneB x with
  | some r => double.order r 0 == some .lt
  | none => false
def sameN (x y : Nat) : Bool :=
  if isNan x = true ∨ isNan y = true then isNan x && isNan y
  else (double.order x y == some .eq) && (!(double.order x 0 == some .eq) || sgN x == sgN y)
def sameV (a b : Vl) : Bool := if a.t ≠ b.t then false else if a.t = 1 then sameN a.n b.n else if a.t = 2 then decide (a.s = b.s) else if a.t = 3 then a.b == b.b else true
def vlV (a : Vl) : Value := .agg #[.int .i64 a.t, .float .f64 a.n, .string (tx a.s), .bool a.b]
theorem below_drewN {n : Nat} {a w : World} (h : Below n a w) (k : Nat) : Below n a (w.drewN k) := h.trans ⟨rfl, rfl, rfl, Nat.le_refl _, fun _ _ => rfl⟩
theorem order_self {x : Nat} (h : isNan x = false) : double.order x x = some .eq := by
  rw [order_val x x h h]
  simp [compare, compareOfLessAndEq]
theorem sameN_self (x : Nat) : sameN x x = true := by
  unfold sameN
  cases h : isNan x
  · rw [if_neg (by simp), order_self h]
    simp
  · rw [if_pos (.inl rfl)]; rfl
theorem sameN_fA {x y : Nat} (h : fA x = fA y) : sameN x y = true := by
  cases hx : isNan x
  · rw [fA_num hx] at h
    have hy : isNan y = false := by
      cases hy : isNan y
      · rfl
      · rw [fA_nan hy] at h; cases h
    rw [fA_num hy] at h
    cases h
    exact sameN_self x
  · rw [fA_nan hx] at h
    have hy : isNan y = true := by
      cases hy : isNan y
      · rw [fA_num hy] at h; cases h
      · rfl
    unfold sameN
    rw [if_pos (.inl hx), hx, hy]
    rfl
theorem div_one {x : Nat} (h : isNan x = false) : ∃ r, double.div oneB x = some r := by
  obtain ⟨m, i, hm, h1⟩ : ∃ m i, m ≠ 0 ∧ double.read oneB = .number (isNeg oneB) m i := by
    obtain ⟨m, i, h1, _, h2⟩ := read_fin oneB (by decide)
    refine ⟨m, i, fun e => ?_, h1⟩
    rw [e, Nat.zero_mul, ← valN_zero] at h2
    exact absurd (valN_inj h2) (by decide)
  unfold Format.div
  rw [h1]
  rcases read_num x h with ⟨n, j, q⟩ | q
  · rw [q]
    unfold Datum.quotient
    by_cases hn : n = 0
    · simp [hn, hm]
    · simp [hn]
  · rw [q]
    exact ⟨_, rfl⟩
set_option maxHeartbeats 1000000 in
theorem rnum (n : Nat) (w : World) : Calls Tryz.prog 27 #[.float .f64 n] w fun e w' => e = .returned (.agg #[.int .i64 1, .float .f64 n, .string ⟨#[]⟩, .bool false]) ∧ Below w.heap.size w w' := by
  go_enter Tryz.func27, Tryz.ntmps27
  go_wp2
  refine bodyPost_ret (val_res rfl _ _ w.heap.size _ _ _ _ rfl (heap_alloc_new _ _)) rfl ?_
  exact ⟨rfl, (Below.refl _ _).alloc (Nat.le_refl _) _⟩
set_option maxHeartbeats 1000000 in
theorem rsign (x : Nat) (h : isNan x = false) (w : World) : Calls Tryz.prog 39 #[.float .f64 x] w fun e w' => e = .returned (.bool (sgN x)) ∧ w = w' := by
  obtain ⟨r, hr⟩ := div_one h
  have hV : ∀ W, (binOp BinOp.quo 22 (.float .f64 4607182418800017408) (.float .f64 x)).run Tryz.prog W = .ok (.float .f64 r) W := fun W => run_float_arith W .quo 22 .f64 _ _ _ hr
  have HE : Hid ((FloatKind.f64.format.order r 0 == some .lt) = sgN x) := Lib.hid (by unfold sgN; rw [hr]; rfl)
  clear h hr
  go_enter Tryz.func39, Tryz.ntmps39
  go_wp2
  go_ret
  exact ⟨ret_bool HE.out, rfl⟩
set_option maxRecDepth 100000 in
set_option maxHeartbeats 8000000 in
theorem rSame (a b : Vl) (w : World) : Calls Tryz.prog 22 #[vlV a, vlV b] w fun e w' => e = .returned (.bool (sameV a b)) ∧ Below w.heap.size w w' := by
  obtain ⟨ta, na, sa, ba⟩ := a
  obtain ⟨tb, nb, sb, bb⟩ := b
  have HAL := Lib.hid (fun o1 o2 => ((Below.refl w.heap.size w).alloc (Nat.le_refl _) o1).alloc (by simp) o2)
  show Calls Tryz.prog 22 #[.agg #[.int .i64 ta, .float .f64 na, .string (tx sa), .bool ba], .agg #[.int .i64 tb, .float .f64 nb, .string (tx sb), .bool bb]] w _
  obtain ⟨R, hR⟩ : ∃ R, R = sameV ⟨ta, na, sa, ba⟩ ⟨tb, nb, sb, bb⟩ := ⟨_, rfl⟩
  rw [← hR]
  unfold sameV at hR
  simp only at hR
  by_cases ht : ta = tb
  · subst ht
    rw [if_neg (by simp)] at hR
    by_cases t1 : ta = 1
    · subst t1
      rw [if_pos rfl] at hR
      unfold sameN at hR
      cases hx : isNan na
      · have o1 : (FloatKind.f64.format.order na na != some .eq) = false := by rw [show FloatKind.f64.format = double from rfl, order_self hx]; rfl
        cases hy : isNan nb
        · have o2 : (FloatKind.f64.format.order nb nb != some .eq) = false := by rw [show FloatKind.f64.format = double from rfl, order_self hy]; rfl
          rw [if_neg (by simp [hx, hy])] at hR
          cases o3 : (FloatKind.f64.format.order na nb == some .eq)
          · have HR : Hid (R = false) := Lib.hid (by rw [hR, show (double.order na nb == some .eq) = false from o3]; rfl)
            clear hR hx hy
            go_enter Tryz.func22, Tryz.ntmps22
            go_wp2
            go_quiet (fail)
            go_wp2
            go_ret
            exact ⟨ret_bool HR.out.symm, below_drewN (HAL.out _ _) _⟩
          · cases o4 : (FloatKind.f64.format.order na 0 == some .eq)
            · have HR : Hid (R = true) := Lib.hid (by rw [hR, show (double.order na nb == some .eq) = true from o3, show (double.order na 0 == some .eq) = false from o4]; rfl)
              have o5 : (FloatKind.f64.format.order na 0 != some .eq) = true := by simp only [bne, o4]; rfl
              clear hR hx hy
              go_enter Tryz.func22, Tryz.ntmps22
              go_wp2
              go_quiet (fail)
              go_wp2
              go_ret
              exact ⟨ret_bool HR.out.symm, below_drewN (HAL.out _ _) _⟩
            · have HR : Hid (R = (sgN na == sgN nb)) := Lib.hid (by rw [hR, show (double.order na nb == some .eq) = true from o3, show (double.order na 0 == some .eq) = true from o4]; rfl)
              have o5 : (FloatKind.f64.format.order na 0 != some .eq) = false := by simp only [bne, o4]; rfl
              have HSA := Lib.hid (fun W => rsign na hx W)
              have HSB := Lib.hid (fun W => rsign nb hy W)
              clear hR hx hy
              go_enter Tryz.func22, Tryz.ntmps22
              go_wp2
              go_quiet ((first | (go_at_call 39; exact quiet_eq (HSA.out _)) | (go_at_call 39; exact quiet_eq (HSB.out _))))
              go_wp2
              go_ret
              exact ⟨ret_bool HR.out.symm, below_drewN (HAL.out _ _) _⟩
        · have o2 : (FloatKind.f64.format.order nb nb != some .eq) = true := by rw [show FloatKind.f64.format = double from rfl, order_nan nb nb (.inl hy)]; rfl
          rw [if_pos (.inr hy), hx] at hR
          have HR : Hid (R = false) := Lib.hid hR
          clear hR hx hy
          go_enter Tryz.func22, Tryz.ntmps22
          go_wp2
          go_ret
          exact ⟨ret_bool HR.out.symm, HAL.out _ _⟩
      · have o1 : (FloatKind.f64.format.order na na != some .eq) = true := by rw [show FloatKind.f64.format = double from rfl, order_nan na na (.inl hx)]; rfl
        rw [if_pos (.inl hx), hx] at hR
        cases hy : isNan nb
        · have o2 : (FloatKind.f64.format.order nb nb != some .eq) = false := by rw [show FloatKind.f64.format = double from rfl, order_self hy]; rfl
          have HR : Hid (R = false) := Lib.hid (by rw [hR, hy]; rfl)
          clear hR hx hy
          go_enter Tryz.func22, Tryz.ntmps22
          go_wp2
          go_ret
          exact ⟨ret_bool HR.out.symm, HAL.out _ _⟩
        · have o2 : (FloatKind.f64.format.order nb nb != some .eq) = true := by rw [show FloatKind.f64.format = double from rfl, order_nan nb nb (.inl hy)]; rfl
          have HR : Hid (R = true) := Lib.hid (by rw [hR, hy]; rfl)
          clear hR hx hy
          go_enter Tryz.func22, Tryz.ntmps22
          go_wp2
          go_ret
          exact ⟨ret_bool HR.out.symm, HAL.out _ _⟩
    · rw [if_neg t1] at hR
      have i1 : (ta == 1) = false := by simpa using t1
      by_cases t2 : ta = 2
      · subst t2
        rw [if_pos rfl] at hR
        have HR : Hid (R = ((tx sa).toList == (tx sb).toList)) := Lib.hid (by rw [hR, tx_toList, tx_toList]; by_cases e : sa = sb <;> simp [e])
        clear hR
        go_enter Tryz.func22, Tryz.ntmps22
        go_wp2
        go_ret
        exact ⟨ret_bool HR.out.symm, HAL.out _ _⟩
      · rw [if_neg t2] at hR
        have i2 : (ta == 2) = false := by simpa using t2
        by_cases t3 : ta = 3
        · subst t3
          rw [if_pos rfl] at hR
          have HR : Hid (R = (ba == bb)) := Lib.hid hR
          clear hR
          go_enter Tryz.func22, Tryz.ntmps22
          go_wp2
          go_ret
          exact ⟨ret_bool HR.out.symm, HAL.out _ _⟩
        · rw [if_neg t3] at hR
          have i3 : (ta == 3) = false := by simpa using t3
          have HR : Hid (R = true) := Lib.hid hR
          clear hR
          go_enter Tryz.func22, Tryz.ntmps22
          go_wp2
          go_ret
          exact ⟨ret_bool HR.out.symm, HAL.out _ _⟩
  · rw [if_pos ht] at hR
    have i1 : (ta != tb) = true := by simpa using ht
    have HR : Hid (R = false) := Lib.hid hR
    clear hR
    go_enter Tryz.func22, Tryz.ntmps22
    go_wp2
    go_ret
    exact ⟨ret_bool HR.out.symm, HAL.out _ _⟩
end Go.Proofs.YtfalcmbjjlgoaaaGreatDoor
/- What is parsed is a well made tree: plain. -/
namespace Go.Proofs.YtfalcmbjjlgoaaaGreatDoor
open Go.RowKit Go.Shelf
/-- Pieces such as are lexed. -/
def TG (ts : List Tok) : Prop := ∀ t ∈ ts, (t.k = 1 → NumT t.s) ∧ (t.k = 2 → wordW t.s) ∧ (t.k = 3 → 39 ∉ t.s)
theorem TG.tail {t : Tok} {r : List Tok} (h : TG (t :: r)) : TG r := fun u hu => h u (by simp [hu])
theorem adv_tg {ok : Bool} {ts r : List Tok} (h : adv ok ts = some r) (hk : TG ts) : TG r := by
  unfold adv at h
  split at h
  · cases h
  · split at h
    · cases h
    · cases h; exact hk.tail
theorem must_tg {ok : Bool} {s : Bs} {ts r : List Tok} (h : must ok s ts = some r) (hk : TG ts) : TG r := by
  unfold must at h
  split at h
  · exact adv_tg h hk
  · cases h
def TwC (R : List Tok → Option (Tree × List Tok)) : Prop := ∀ ts a r, R ts = some (a, r) → TG ts → WF parsedN a ∧ TG r
theorem tok_head {ts : List Tok} {k : Nat} {s : Bs} (h : isTok ts k s = true) : (ts.headD ⟨0, []⟩).s = s := by
  unfold isTok at h
  split at h
  · cases h
  · simp at h
    simpa using h.2
theorem sum_op {ts : List Tok} (h : isTok ts 4 [43] = true ∨ isTok ts 4 [45] = true) : inO (ts.headD ⟨0, []⟩).s := by
  rcases h with h | h
  · exact .inr (.inr (.inr (.inl (tok_head h))))
  · exact .inr (.inr (.inr (.inr (.inl (tok_head h)))))
theorem prod_op {ts : List Tok} (h : isTok ts 4 [42] = true ∨ isTok ts 4 [47] = true) : inO (ts.headD ⟨0, []⟩).s := by
  rcases h with h | h
  · exact .inr (.inr (.inr (.inr (.inr (.inl (tok_head h))))))
  · exact .inr (.inr (.inr (.inr (.inr (.inr (tok_head h))))))
theorem inside_wf {ok : Bool} {R : List Tok → Option (Tree × List Tok)} {ts r : List Tok} {a : Tree} (hR : TwC R) (h : inside ok R ts = some (a, r)) (hk : TG ts) : WF parsedN a ∧ TG r := by
  unfold inside at h
  split at h
  · cases h
  · rename_i t1 h1
    split at h
    · cases h
    · rename_i a2 t2 h2
      split at h
      · cases h
      · rename_i t3 h3
        cases h
        have g := hR _ _ _ h2 (must_tg h1 hk)
        exact ⟨g.1, must_tg h3 g.2⟩
theorem hasP_wf {ok : Bool} {R : List Tok → Option (Tree × List Tok)} {ts r : List Tok} {a : Tree} (hR : TwC R) (h : hasP ok R ts = some (a, r)) (hk : TG ts) : WF parsedN a ∧ TG r := by
  unfold hasP at h
  split at h
  · cases h
  · rename_i t1 h1
    split at h
    · cases h
    · rename_i a2 t2 h2
      split at h
      · cases h
      · rename_i t3 h3
        split at h
        · cases h
        · rename_i b t4 h4
          split at h
          · cases h
          · rename_i t5 h5
            cases h
            have g := hR _ _ _ h2 (must_tg h1 hk)
            have g2 := hR _ _ _ h4 (must_tg h3 g.2)
            exact ⟨.bin _ _ _ (.inl rfl) g.1 g2.1, must_tg h5 g2.2⟩
def Mode.wf : Mode → Prop
  | .orT t | .andT t | .sumT t | .prodT t => WF parsedN t
  | _ => True
theorem P_wf (ok : Bool) : ∀ (n : Nat) (m : Mode) (ts : List Tok) (a : Tree) (r : List Tok), P valV ok n m ts = some (a, r) → TG ts → m.wf → WF parsedN a ∧ TG r := by
  intro n
  induction n with
  | zero => intro m ts a r h; cases h
  | succ n ih =>
    have chain : ∀ (m1 : Mode) (m2 : Tree → Mode) (ts r : List Tok) (a : Tree), m1.wf → (∀ t, WF parsedN t → (m2 t).wf) → (match P valV ok n m1 ts with | none => none | some (a, r) => P valV ok n (m2 a) r) = some (a, r) → TG ts → WF parsedN a ∧ TG r := by
      intro m1 m2 ts r a hm hm2 h hk
      split at h
      · cases h
      · rename_i b t1 h1
        have g := ih _ _ _ _ h1 hk hm
        exact ih _ _ _ _ h g.2 (hm2 _ g.1)
    have tailr : ∀ (c : Prop) [Decidable c] (m1 : Mode) (m2 : Tree → Mode) (ts r : List Tok) (a x : Tree), m1.wf → (c → ∀ t, WF parsedN t → (m2 t).wf) → (if c then (match adv ok ts with | none => none | some t1 => match P valV ok n m1 t1 with | none => none | some (b, r) => P valV ok n (m2 b) r) else some (x, ts)) = some (a, r) → TG ts → WF parsedN x → WF parsedN a ∧ TG r := by
      intro c _ m1 m2 ts r a x hm hm2 h hk hx
      split at h
      · rename_i hc
        split at h
        · cases h
        · rename_i t1 h1
          split at h
          · cases h
          · rename_i b t2 h2
            have g := ih _ _ _ _ h2 (adv_tg h1 hk) hm
            exact ih _ _ _ _ h g.2 (hm2 hc _ g.1)
      · cases h; exact ⟨hx, hk⟩
    have hor : TwC (P valV ok n .or) := fun ts a r h hk => ih _ _ _ _ h hk trivial
    intro m ts a r h hk hm
    cases m with
    | or => exact chain .and Mode.orT ts r a trivial (fun _ h => h) (by have h' := h; simp only [P] at h'; exact h') hk
    | and => exact chain .not Mode.andT ts r a trivial (fun _ h => h) (by have h' := h; simp only [P] at h'; exact h') hk
    | sum => exact chain .prod Mode.sumT ts r a trivial (fun _ h => h) (by have h' := h; simp only [P] at h'; exact h') hk
    | prod => exact chain .signed Mode.prodT ts r a trivial (fun _ h => h) (by have h' := h; simp only [P] at h'; exact h') hk
    | orT x => exact tailr _ .and (fun b => Mode.orT (two wor x b)) ts r a x trivial (fun _ t h => .bin wor _ _ (.inr (.inl rfl)) hm h) (by have h' := h; simp only [P] at h'; exact h') hk hm
    | andT x => exact tailr _ .not (fun b => Mode.andT (two wand x b)) ts r a x trivial (fun _ t h => .bin wand _ _ (.inr (.inr (.inl rfl))) hm h) (by have h' := h; simp only [P] at h'; exact h') hk hm
    | sumT x => exact tailr _ .prod (fun b => Mode.sumT (two ((ts.headD ⟨0, []⟩).s) x b)) ts r a x trivial (fun hc t h => .bin _ _ _ (.inr (sum_op hc)) hm h) (by have h' := h; simp only [P] at h'; exact h') hk hm
    | prodT x => exact tailr _ .signed (fun b => Mode.prodT (two ((ts.headD ⟨0, []⟩).s) x b)) ts r a x trivial (fun hc t h => .bin _ _ _ (.inr (prod_op hc)) hm h) (by have h' := h; simp only [P] at h'; exact h') hk hm
    | not =>
      simp only [P] at h
      split at h
      · split at h
        · cases h
        · rename_i t1 h1
          split at h
          · cases h
          · rename_i b t2 h2
            cases h
            have g := ih _ _ _ _ h2 (adv_tg h1 hk) trivial
            exact ⟨.pre wnot _ (.inl rfl) g.1, g.2⟩
      · split at h
        · cases h
        · rename_i b t2 h2
          have g2 := ih _ _ _ _ h2 hk trivial
          split at h
          · cases h; exact g2
          · split at h
            · rename_i hc
              split at h
              · cases h
              · rename_i t3 h3
                split at h
                · cases h
                · rename_i c t4 h4
                  cases h
                  have g := ih _ _ _ _ h4 (adv_tg h3 g2.2) trivial
                  exact ⟨.bin _ _ _ (.inr (.inr (.inr (.inl hc.2)))) g2.1 g.1, g.2⟩
            · cases h; exact g2
    | signed =>
      simp only [P] at h
      split at h
      · split at h
        · cases h
        · rename_i t1 h1
          split at h
          · cases h
          · rename_i b t2 h2
            cases h
            have g := ih _ _ _ _ h2 (adv_tg h1 hk) trivial
            exact ⟨.pre wneg _ (.inr (.inl rfl)) g.1, g.2⟩
      · exact ih _ _ _ _ h hk trivial
    | atom =>
      cases ts with
      | nil => simp only [P] at h; cases h
      | cons t ts =>
        rw [P_atom] at h
        split at h
        · rename_i k1
          split at h
          · cases h
          · rename_i t1 h1
            cases h
            exact ⟨.num _ ⟨t.s, (hk t (by simp)).1 k1, rfl⟩, adv_tg h1 hk⟩
        · split at h
          · rename_i k1
            split at h
            · cases h
            · rename_i t1 h1
              cases h
              exact ⟨.text _ ((hk t (by simp)).2.2 k1), adv_tg h1 hk⟩
          · split at h
            · rename_i k1
              unfold namedP at h
              split at h
              · cases h
              · rename_i n1
                split at h
                · cases h
                · rename_i t1 h1
                  split at h
                  · rename_i n2
                    split at h
                    · cases h
                    · rename_i b t2 h2
                      cases h
                      have g := inside_wf hor h2 (adv_tg h1 hk)
                      exact ⟨.pre _ _ (by rcases n2 with e | e; exact .inr (.inr (.inl e)); exact .inr (.inr (.inr e))) g.1, g.2⟩
                  · rename_i n2
                    split at h
                    · exact hasP_wf hor h (adv_tg h1 hk)
                    · rename_i n3
                      cases h
                      refine ⟨.name _ ((hk t (by simp)).2.1 k1) ?_, adv_tg h1 hk⟩
                      rintro (e | e | e | e | e | e)
                      · exact n1 (.inl e)
                      · exact n1 (.inr (.inl e))
                      · exact n1 (.inr (.inr e))
                      · exact n2 (.inl e)
                      · exact n2 (.inr e)
                      · exact n3 e
            · exact inside_wf hor h hk
theorem takeW_mem {p : UInt8 → Bool} {l : Bs} : ∀ c ∈ l.takeWhile p, p c = true := by
  induction l with
  | nil => simp
  | cons d t ih =>
    rw [List.takeWhile_cons]
    split
    · rename_i h
      intro c hc
      rcases List.mem_cons.1 hc with rfl | hc
      · exact h
      · exact ih c hc
    · simp
theorem takeW_take {p : UInt8 → Bool} {l : Bs} : l.take (l.takeWhile p).length = l.takeWhile p := by
  induction l with
  | nil => simp
  | cons d t ih =>
    rw [List.takeWhile_cons]
    split
    · rw [List.length_cons, List.take_succ_cons, ih]
    · simp
theorem lex1_tg {l : Bs} {t : Tok} {n : Nat} (h : lex1 l = some (t, n)) : (t.k = 1 → NumT t.s) ∧ (t.k = 2 → wordW t.s) ∧ (t.k = 3 → 39 ∉ t.s) := by
  refine ⟨fun hk => lex1_num_tok h hk, ?_, ?_⟩
  all_goals
    cases l with
    | nil => cases h
    | cons c r =>
      simp only [lex1] at h
      split at h
      · split at h
        · cases h; intro e; cases e
        · cases h
      · split at h
        · rename_i hl
          cases h
          intro e
          first
            | cases e; done
            | (rw [Nat.add_comm 1, List.take_succ_cons]
               refine ⟨by simpa using hl, fun d hd => ?_⟩
               rcases List.mem_cons.1 hd with rfl | hd
               · exact let_wrd hl
               · rw [show cntWrd r = (r.takeWhile isWrd).length from rfl, takeW_take] at hd
                 exact takeW_mem d hd)
        · split at h
          · split at h
            · cases h
              intro e
              first
                | cases e; done
                | (intro hm
                   rw [show cntTxt r = (r.takeWhile (fun c => c != 39)).length from rfl, takeW_take] at hm
                   have := takeW_mem 39 hm
                   exact absurd this (by decide))
            · cases h
          · split at h
            · cases h; intro e; cases e
            · split at h
              · cases h; intro e; cases e
              · cases h
theorem lexF_tg : ∀ (n : Nat) (l : Bs), TG (lexF n l).1
  | 0, _ => fun t h => by cases h
  | n + 1, l => by
    simp only [lexF]
    split
    · intro t h; cases h
    · cases hq : lex1 (l.drop (cntBl l)) with
      | none => intro t h; cases h
      | some x =>
        obtain ⟨t, k⟩ := x
        have h1 := lex1_tg hq
        have h2 := lexF_tg n ((l.drop (cntBl l)).drop k)
        intro u hu
        rcases List.mem_cons.1 hu with rfl | hu
        · exact h1
        · exact h2 u hu
theorem read_wf {l : Bs} {t : Tree} (h : readP l = some t) : WF parsedN t := by
  unfold readP at h
  split at h
  · cases h
  · split at h
    · rename_i t2 h2
      cases h
      exact (P_wf _ _ _ _ _ _ h2 (lexF_tg _ _) trivial).1
    · cases h
mutual
/-- Are all of a tree's numbers whole ones. -/
def whoT : Tree → Bool
  | .mk op n _ l => (!decide (op = wnum) || sameN n (ofI (kN n))) && whoL l
def whoL : List Tree → Bool
  | [] => true
  | t :: r => whoT t && whoL r
end
theorem whole_n {n : Nat} (h : parsedN n) (hw : sameN n (ofI (kN n)) = true) : backN n := by
  obtain ⟨h1, h2, h3⟩ := parsed_in h
  obtain ⟨hn, _⟩ := in_num h3
  have ho := ofI_num (kN n : Int)
  unfold sameN at hw
  rw [if_neg (by rw [hn, ho]; decide), Bool.and_eq_true] at hw
  have e := isEq_same hn ho h1 (ofI_neg _) h2 (ofI_lt _) hw.1
  refine parsed_back h ?_
  rw [← e, order_self hn]
  rfl
theorem WF.back {t : Tree} (h : WF parsedN t) (hw : whoT t = true) : WF backN t := by
  induction h with
  | num n hn =>
    simp only [whoT, whoL] at hw
    exact .num n (whole_n hn (by simpa using hw))
  | text s hs => exact .text s hs
  | name s h1 h2 => exact .name s h1 h2
  | pre op a ho _ ih =>
    simp only [one, whoT, whoL, Bool.and_eq_true] at hw
    exact .pre op a ho (ih hw.2.1)
  | bin op a b ho _ _ iha ihb =>
    simp only [two, whoT, whoL, Bool.and_eq_true] at hw
    exact .bin op a b ho (iha hw.2.1) (ihb hw.2.2.1)
/-- THE PLAIN LAW: what is parsed, of whole numbers, printed, not too long, is parsed as the same. -/
theorem back_plain {s : Bs} {t : Tree} (h : parseP s = (t, 0)) (hw : whoT t = true) (hl : (prtT numT t).length ≤ 256) : parseP (prtT numT t) = (t, 0) := by
  unfold parseP at h
  split at h
  · cases h
  · split at h
    · cases h
    · rename_i t2 h2
      split at h
      · cases h
      · rename_i hd
        cases h
        have hb := wf_read ((read_wf h2).back hw)
        unfold parseP
        rw [if_neg (by omega), hb]
        simp only
        rw [if_neg hd]
end Go.Proofs.YtfalcmbjjlgoaaaGreatDoor
