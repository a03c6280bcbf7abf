/- Walk: same: a theme stands as styles. -/
import Derived.Test.YtlhfdpeidlbomaaDoorTR
namespace Go.Proofs.YtlhfdpeidlbomaaDoor
open Go.RowKit Go.Shelf
attribute [local go_sem] Oper.semAt_some
theorem prt_inj {i j : Nat} (hi : i < 10) (hj : j < 10) (h : prt i = prt j) : i = j := by
  have h1 := (pl_at i hi).1
  have h2 := (pl_at j hj).1
  rw [h] at h1
  omega
theorem run_equalIn_func_nil (w : World) (d : Nat) (f : Fn) (a b : Array Value) : (Op.equalIn (d + 1) 79 (.func f a b) .nilFunc).run Tryd.prog w = .ok false w := by
  simp [Op.equalIn, run_underlying Tryd.underlying79]
theorem run_eql_func_nil (w : World) (f : Fn) (a b : Array Value) : (binOp .eql 79 (.func f a b) .nilFunc).run Tryd.prog w = .ok (.bool false) w := by
  simp only [binOp]
  simp [Op.equal, Op.maxDepth, run_equalIn_func_nil w 9999 f a b]
/-- What the rounds of same keep: the boxes of the styles, the result, the names and the count. -/
structure MI (w : World) (bt g : Nat) (ys : List Sty) (n1 n2 n3 n4 n5 : Nat) (res : Bool) (k : Nat) (W : World) : Prop where
  l : Box W n1 39 (.slice (some ⟨g, 0, none⟩) 10 10)
  r : Box W n2 4 (.bool res)
  p : Box W n4 57 (.slice (some ⟨n3, 0, none⟩) 10 10)
  c : Box W n5 3 (.int .i64 (k : Int))
  nm : W.heap[n3]? = some (.cells namesA 9 (0, 0))
  th : ThAt W bt ys
  rl : RLat W g ys
  bx : Box W (n5 + 1) 36 (.pointer (some ⟨bt, 0, none⟩))
  bel : Below w.heap.size w W
  ord : w.heap.size ≤ n1 ∧ n1 < n2 ∧ n2 < n3 ∧ n3 < n4 ∧ n4 < n5 ∧ n5 + 2 ≤ W.heap.size ∧ bt < w.heap.size ∧ g < w.heap.size
theorem Box.keptC {A B : World} {b : Nat} {t : TypeId} {v : Value} (h : Box A b t v) (hk : CellsKept A B) : Box B b t v := (hk.2 b _ h rfl).trans h
theorem MI.keptC {w : World} {bt g : Nat} {ys : List Sty} {n1 n2 n3 n4 n5 : Nat} {res : Bool} {k : Nat} {A B : World} (h : MI w bt g ys n1 n2 n3 n4 n5 res k A) (hk : CellsKept A B) (hb : Below w.heap.size w B) : MI w bt g ys n1 n2 n3 n4 n5 res k B :=
  ⟨h.l.keptC hk, h.r.keptC hk, h.p.keptC hk, h.c.keptC hk, (hk.2 _ _ h.nm rfl).trans h.nm, h.th.keptC hk, h.rl.keptC hk, h.bx.keptC hk, hb, by have := h.ord; have := hk.1; omega⟩
theorem cells_below {A B : World} (h : Below A.heap.size A B) : CellsKept A B := ⟨h.size, fun j _ ho _ => h.block j (Array.getElem?_eq_some_iff.1 ho).1⟩
theorem MI.kept {w : World} {bt g : Nat} {ys : List Sty} {n1 n2 n3 n4 n5 : Nat} {res : Bool} {k : Nat} {A B : World} (h : MI w bt g ys n1 n2 n3 n4 n5 res k A) (hb : Below A.heap.size A B) : MI w bt g ys n1 n2 n3 n4 n5 res k B :=
  h.keptC (cells_below hb) (h.bel.trans (below_le hb h.bel.size))
theorem mi_own {β : Type} (w : World) (bt g : Nat) (ys : List Sty) (n1 n2 n3 n4 n5 : Nat) (B : Nat) (hB : w.heap.size ≤ B) (p : β → Prop) (res : β → Bool) (k : β → Nat) : OwnFrom B (fun b W => p b ∧ MI w bt g ys n1 n2 n3 n4 n5 (res b) (k b) W) := fun _ _ _ _ h hg hr =>
  ⟨h.1, h.2.keptC (cells_grown hg (fun r e => (hr r e).2)) (h.2.bel.grown hg h.2.bel.size (fun k e => by have := (hr k e).1; omega))⟩
/-- The count is stored; the result is stored. -/
theorem MI.count {w : World} {bt g : Nat} {ys : List Sty} {n1 n2 n3 n4 n5 : Nat} {res : Bool} {k : Nat} {A : World} (h : MI w bt g ys n1 n2 n3 n4 n5 res k A) (k' : Nat) : MI w bt g ys n1 n2 n3 n4 n5 res k' (A.setCell ⟨n5, 0, none⟩ (.int .i64 (k' : Int))) := by
  have ho := h.ord
  exact ⟨(set_other (by omega)).trans h.l, (set_other (by omega)).trans h.r, (set_other (by omega)).trans h.p, h.c.set _, (set_other (by omega)).trans h.nm, ⟨(set_other (by omega)).trans h.th.blk, h.th.len⟩, ⟨(set_other (by omega)).trans h.rl.blk, h.rl.len⟩, (set_other (by omega)).trans h.bx, h.bel.setCell (p := ⟨n5, 0, none⟩) (show w.heap.size ≤ n5 by omega) _, by simpa using ho⟩
theorem MI.result {w : World} {bt g : Nat} {ys : List Sty} {n1 n2 n3 n4 n5 : Nat} {res : Bool} {k : Nat} {A : World} (h : MI w bt g ys n1 n2 n3 n4 n5 res k A) (b : Bool) : MI w bt g ys n1 n2 n3 n4 n5 b k (A.setCell ⟨n2, 0, none⟩ (.bool b)) := by
  have ho := h.ord
  exact ⟨(set_other (by omega)).trans h.l, h.r.set _, (set_other (by omega)).trans h.p, (set_other (by omega)).trans h.c, (set_other (by omega)).trans h.nm, ⟨(set_other (by omega)).trans h.th.blk, h.th.len⟩, ⟨(set_other (by omega)).trans h.rl.blk, h.rl.len⟩, (set_other (by omega)).trans h.bx, h.bel.setCell (p := ⟨n2, 0, none⟩) (show w.heap.size ≤ n2 by omega) _, by simpa using ho⟩
theorem keepG {n : Nat} {w w1 w2 : World} (h : Below n w w1) (hw : n = w.heap.size) (g : Below w1.heap.size w1 w2) : Below n w w2 := h.trans (below_le g (by have := h.size; omega))
theorem results_cell1 {P : Program} {fn : Func} {p : Tmp} {ty : TypeId} (h : fn.results = #[.cell p ty]) (tmps : Array Value) (w : World) (a : Addr) (v : Value) (hp : tmps.getD p undef = .pointer (some a)) (hl : (loadVar ty a).run P w = .ok v w) :
    (results fn tmps).run P w = .ok v w := by
  have hp' : tmps[p]?.getD undef = .pointer (some a) := by simpa using hp
  simp [results, h, hp', asAddr, hl]
theorem load_bool {w : World} {a : Addr} {b : Bool} (hc : w.cell? a = some (.bool b)) : (loadVar 4 a).run Tryd.prog w = .ok (.bool b) w := by
  simp [go_sem, Tryd.isAgg4, hc]
def inOrder (pre : List (Fin 10)) : Prop := pre.map (·.1) = List.range pre.length
theorem inOrder_snoc {pre : List (Fin 10)} {x : Fin 10} : inOrder (pre ++ [x]) ↔ inOrder pre ∧ x.1 = pre.length := by
  unfold inOrder
  rw [List.map_append, List.length_append, List.length_singleton, List.range_succ, List.map_cons, List.map_nil]
  constructor
  · intro h
    have := List.append_inj h (by simp)
    exact ⟨this.1, by simpa using this.2⟩
  · rintro ⟨h1, h2⟩
    rw [h1, h2]
/-- The frame of a round of same. -/
def MAx (bt g : Nat) (ys : List Sty) (n1 n2 n3 n4 n5 n6 : Nat) (x : Fin 10) (a : Act) (W : World) : Prop :=
  ∃ Bx, n6 < Bx ∧ StyAt W Bx (nthY ys x.1) ∧ a = { tmps := #[.pointer (some ⟨bt, 0, none⟩), .slice (some ⟨g, 0, none⟩) 10 10, undef, .pointer (some ⟨n1, 0, none⟩), .pointer (some ⟨n2, 0, none⟩), .pointer (some ⟨n4, 0, none⟩), .pointer (some ⟨n5, 0, none⟩), .func (.func 46) #[] #[.pointer (some ⟨n6, 0, none⟩)], .string (tx (prt x.1)), .pointer (some ⟨Bx, 0, none⟩), .slice (some ⟨n3, 0, none⟩) 10 10, .pointer (some ⟨bt, 0, none⟩), .func (.func 46) #[] #[.pointer (some ⟨n6, 0, none⟩)], .func (.func 46) #[] #[.pointer (some ⟨n6, 0, none⟩)], .bool false, .func (.func 46) #[] #[.pointer (some ⟨n6, 0, none⟩)], .string (tx (prt x.1)), styA (nthY ys x.1), undef, undef, undef, undef, undef, undef, undef, undef, undef, undef, undef, undef, undef, undef, undef, undef, undef, undef, undef, undef, undef, undef, undef, undef, undef, undef, undef, undef, undef, undef, undef, undef, undef, undef, undef, undef], defers := [] }
theorem max_own (bt g : Nat) (ys : List Sty) (n1 n2 n3 n4 n5 n6 : Nat) (x : Fin 10) (a : Act) (B : Nat) : OwnFrom B (fun (_ : Unit) W => MAx bt g ys n1 n2 n3 n4 n5 n6 x a W) := fun _ _ _ _ ⟨Bx, h0, h1, h2⟩ hg hr =>
  ⟨Bx, h0, ((cells_grown hg (fun r e => (hr r e).2)).2 Bx _ h1 rfl).trans h1, h2⟩
theorem alc_new {w : World} {o : Obj} {j : Nat} (h : j = w.heap.size) : (w.alloc o).heap[j]? = some o := by subst h; exact heap_alloc_new _ _
theorem alc_old {w : World} {o x : Obj} {j : Nat} (h : w.heap[j]? = some x) : (w.alloc o).heap[j]? = some x := (Below.heap_alloc _ _ _ (Array.getElem?_eq_some_iff.1 h).1).trans h
theorem mi_start (w : World) (bt g : Nat) (ys : List Sty) (hT : ThAt w bt ys) (hR : RLat w g ys) :
    MI w bt g ys w.heap.size (w.heap.size + 1) (w.heap.size + 1 + 1) (w.heap.size + 1 + 1 + 1) (w.heap.size + 1 + 1 + 1 + 1) false 0
      ((((((w.alloc (.cells #[.slice (some ⟨g, 0, none⟩) 10 10] 39)).alloc (.cells #[.bool false] 4)).alloc (.cells namesA 9)).alloc (.cells #[.slice (some ⟨w.heap.size + 1 + 1, 0, none⟩) 10 10] 57)).alloc (.cells #[.int .i64 0] 3)).alloc (.cells #[.pointer (some ⟨bt, 0, none⟩)] 36)) := by
  have hb : Below w.heap.size w ((((((w.alloc (.cells #[.slice (some ⟨g, 0, none⟩) 10 10] 39)).alloc (.cells #[.bool false] 4)).alloc (.cells namesA 9)).alloc (.cells #[.slice (some ⟨w.heap.size + 1 + 1, 0, none⟩) 10 10] 57)).alloc (.cells #[.int .i64 0] 3)).alloc (.cells #[.pointer (some ⟨bt, 0, none⟩)] 36)) :=
    ((((((Below.refl _ _).alloc (Nat.le_refl _) _).alloc (by simp) _).alloc (by simp; omega) _).alloc (by simp; omega) _).alloc (by simp; omega) _).alloc (by simp; omega) _
  have hl := hT.lt
  have hg := hR.lt
  refine ⟨?_, ?_, ?_, ?_, ?_, hT.kept hl hb, hR.kept hg hb, ?_, hb, by simp; omega⟩
  all_goals
    (try unfold Box)
    repeat (first | exact alc_new (by simp) | refine alc_old ?_)
set_option maxRecDepth 100000 in
set_option maxHeartbeats 4000000 in
theorem wsame (bt g : Nat) (ys : List Sty) (w : World) (hT : ThAt w bt ys) (hR : RLat w g ys) : Calls Tryd.prog 15 #[.pointer (some ⟨bt, 0, none⟩), .slice (some ⟨g, 0, none⟩) 10 10] w fun e w' => e = .returned (.bool true) ∧ Below w.heap.size w w' := by
  have hfn := run_eql_func_nil
  have HT := Lib.hid hT
  have HR := Lib.hid hR
  clear hT hR
  refine (callsIn_wide (n := 6)).1 ?_
  refine callsIn_of_wp_marks Tryd.func15 rfl trivial ?_ rfl
  simp only [Tryd.ntmps15, List.size_toArray, List.length_cons, List.length_nil, Nat.reduceAdd, Nat.reduceSub, Array.replicate_succ, Array.replicate_zero, List.push_toArray, List.append_toArray, List.nil_append, List.cons_append]
  gi_wp2_with (first | (refine ⟨trivial, ?_⟩; gi_at_call 37; refine (callsIn_wide.2 (wparts _)).mono ?_; rintro e w' ⟨rfl, rfl⟩) | (refine ⟨trivial, ?_⟩; gi_at_call 34; refine (callsIn_wide.2 (wall _ _)).mono ?_; rintro e w' ⟨rfl, rfl⟩))
  clear hfn
  have HI := Lib.hid (mi_start w bt g ys HT.out HR.out)
  have hBn : (((((((w.alloc (.cells #[.slice (some ⟨g, 0, none⟩) 10 10] 39)).alloc (.cells #[.bool false] 4)).alloc (.cells namesA 9)).alloc (.cells #[.slice (some ⟨w.heap.size + 1 + 1, 0, none⟩) 10 10] 57)).alloc (.cells #[.int .i64 0] 3)).alloc (.cells #[.pointer (some ⟨bt, 0, none⟩)] 36))).cell? ⟨w.heap.size + 1 + 1 + 1 + 1 + 1, 0, none⟩ = some (.pointer (some ⟨bt, 0, none⟩)) := Box.cell (t := 36) (alc_new (by simp))
  obtain ⟨W0, hW0⟩ : ∃ W0, (((((w.alloc (.cells #[.slice (some ⟨g, 0, none⟩) 10 10] 39)).alloc (.cells #[.bool false] 4)).alloc (.cells namesA 9)).alloc (.cells #[.slice (some ⟨w.heap.size + 1 + 1, 0, none⟩) 10 10] 57)).alloc (.cells #[.int .i64 0] 3)).alloc (.cells #[.pointer (some ⟨bt, 0, none⟩)] 36) = W0 := ⟨_, rfl⟩
  have hsz : W0.heap.size = w.heap.size + 1 + 1 + 1 + 1 + 1 + 1 := by rw [← hW0]; simp
  rw [hW0] at HI hBn ⊢
  clear hW0
  obtain ⟨n1, h1⟩ : ∃ n, n = w.heap.size := ⟨_, rfl⟩
  obtain ⟨n2, h2⟩ : ∃ n, n = w.heap.size + 1 := ⟨_, rfl⟩
  obtain ⟨n3, h3⟩ : ∃ n, n = n2 + 1 := ⟨_, rfl⟩
  obtain ⟨n4, h4⟩ : ∃ n, n = n3 + 1 := ⟨_, rfl⟩
  obtain ⟨n5, h5⟩ : ∃ n, n = n4 + 1 := ⟨_, rfl⟩
  obtain ⟨n6, h6⟩ : ∃ n, n = n5 + 1 := ⟨_, rfl⟩
  have HI2 : Hid (MI w bt g ys n1 n2 n3 n4 n5 false 0 W0) := by rw [h5, h4, h3, h2, h1]; exact HI
  have HBN : Hid (W0.cell? ⟨n6, 0, none⟩ = some (.pointer (some ⟨bt, 0, none⟩))) := by rw [h6, h5, h4, h3, h2]; exact Lib.hid hBn
  have HSZ : Hid (W0.heap.size = n6 + 1 ∧ n6 = n5 + 1) := Lib.hid ⟨by rw [hsz, h6, h5, h4, h3, h2], h6⟩
  rw [← h2, ← h3, ← h4, ← h5, ← h6, ← h1]
  clear HI hBn hsz h2 h3 h4 h5 h6
  have HN1 := Lib.hid h1
  clear h1
  refine wpIn_rangeFunc_ownH rfl (by omega) (gf := 46) (lb := #[.pointer (some ⟨n6, 0, none⟩)]) (by simp [go_sem]) trivial (enters_of Tryd.func46 (by kernel_rfl) rfl)
    (all_stops (ys := ys) HBN.out (by rw [HSZ.out.1]; omega) HI2.out.th) KeepT.trans (keepT_b (HI2.out.th.lt) (by rw [HSZ.out.1]; omega)) (Below.refl _ _) (fun _ => rfl)
    (fun pre W => inOrder pre ∧ MI w bt g ys n1 n2 n3 n4 n5 false pre.length W)
    (fun c pre W => c = .ret ∧ ¬ inOrder pre)
    (mi_own w bt g ys n1 n2 n3 n4 n5 _ HI2.out.bel.size _ _ _)
    (fun _ _ _ _ _ hs _ _ => hs)
    ⟨rfl, HI2.out⟩
    (MAx bt g ys n1 n2 n3 n4 n5 n6) (fun x a => max_own bt g ys n1 n2 n3 n4 n5 n6 x a _) ?assign ?body ?done ?stop
  case assign =>
    intro l pre x W K hI hK
    unfold encY
    have H := Lib.hid hK
    clear hK
    gi_wp2
    have hb : Below W.heap.size W (W.alloc (.cells #[.bool (nthY ys x.1).b, .bool (nthY ys x.1).u, .bool (nthY ys x.1).i, .int .i64 (nthY ys x.1).f, .int .i64 (nthY ys x.1).g] 23)) := (Below.refl _ _).alloc (Nat.le_refl _) _
    have ho := hI.2.ord
    exact H.out _ _ (keepsFrom_below hb) (KeepT.below hb hI.2.th.lt (by have := HSZ.out.2; omega)) ⟨hI.1, hI.2.kept hb⟩ ⟨W.heap.size, by have := HSZ.out.2; omega, heap_alloc_new _ _, rfl⟩
  case body =>
    rintro l pre ⟨xv, hxv⟩ a' W hl ⟨r, hr⟩ ⟨hin, hI⟩ ⟨Bx, hB6, hBx, rfl⟩ hlt
    simp only [] at hBx ⊢
    clear hr r
    have HIN := Lib.hid hin
    have HI := Lib.hid hI
    have HBX := Lib.hid hBx
    obtain ⟨k, hk⟩ : ∃ k, k = pre.length := ⟨_, rfl⟩
    rw [← hk] at HI hlt
    have HKK := Lib.hid hk
    have c5 := HI.out.c.cell
    have f5 := HI.out.c.frozen
    have f2 := HI.out.r.frozen
    have c2 := HI.out.r.cell
    have c4 := HI.out.p.cell
    have c1 := HI.out.l.cell
    have cn := names_cell W n3 HI.out.nm k hlt
    obtain ⟨d0, d1, d2, d3, d4⟩ := HI.out.rl.get k hlt
    obtain ⟨e0, e1, e2, e3, e4, _, _⟩ := hBx.get
    have i1 : (0 : Int) ≤ (k : Int) := by omega
    have i2 : (k : Int) < 10 := by omega
    clear hin hI hBx hk
    by_cases hx : xv = k
    · subst hx
      have g1 : ((tx (prt xv)).toList == (tx (prt xv)).toList) = true := by simp
      have g2 := fun V => neq_self (nthY ys xv) V
      have g3 : decide ((10 : Int) ≤ (xv : Int)) = false := decide_eq_false (by omega)
      have HCC := Lib.hid (HI.out.count (xv + 1))
      obtain ⟨P, hP⟩ : ∃ P, P = tx (prt xv) := ⟨_, rfl⟩
      rw [← hP] at g1 cn
      simp only [← hP]
      clear hP hlt
      gi_wp2
      refine region_quiet (by kernel_rfl) (by kernel_rfl) (by kernel_rfl) ?_
      repeat (gi_big_quiet_step (fail))
      refine wpQuietIn_nil ?_
      intro _ hw'
      obtain ⟨nq, hw''⟩ := hw'
      subst hw''
      gi_wp2
      have hd : Below W.heap.size W (W.drewN nq) := below_drewN (Below.refl _ _) _
      have h1 := (HI.out.kept hd).count (xv + 1)
      have ho := HI.out.ord
      refine ⟨(keepsFrom_below hd).trans ((KeepsOthers.setCell _ _ _).from _), (KeepT.below hd HI.out.th.lt (by have := HSZ.out.2; omega)).trans ⟨by simp, set_other (by omega), set_other (by have := HSZ.out.2; omega)⟩, inOrder_snoc.2 ⟨HIN.out, HKK.out⟩, ?_⟩
      rw [List.length_append, List.length_singleton, ← HKK.out]
      exact h1
    · have g1 : ((tx (prt xv)).toList == (tx (prt k)).toList) = false := by rw [beq_bytes]; exact decide_eq_false (fun e => hx (prt_inj hxv hlt (tx_inj e)))
      have g3 : decide ((10 : Int) ≤ (k : Int)) = false := decide_eq_false (by omega)
      have HNI : Hid (¬ inOrder (pre ++ [⟨xv, hxv⟩])) := Lib.hid (fun h => hx ((inOrder_snoc.1 h).2.trans HKK.out.symm))
      obtain ⟨P, hP⟩ : ∃ P, P = tx (prt k) := ⟨_, rfl⟩
      obtain ⟨P2, hP2⟩ : ∃ P, P = tx (prt xv) := ⟨_, rfl⟩
      rw [← hP] at cn
      rw [← hP, ← hP2] at g1
      simp only [← hP2]
      clear hP hP2 hlt hx
      gi_wp2
      refine region_quiet (by kernel_rfl) (by kernel_rfl) (by kernel_rfl) ?_
      repeat (gi_big_quiet_step (fail))
      refine wpQuietIn_nil ?_
      intro _ hw'
      obtain ⟨nq, hw''⟩ := hw'
      subst hw''
      gi_wp2
      exact ⟨(keepsFrom_below (below_drewN (Below.refl _ _) _)).trans ((KeepsOthers.setCell _ _ _).from _), rfl, HNI.out⟩
  case done =>
    rintro D xs W hD hS ⟨hin, hI⟩ hK
    have HI := Lib.hid hI
    have HK := Lib.hid hK
    have HD := Lib.hid hD
    have hl : xs.length = 10 := by have := congrArg List.length hS; simpa using this
    rw [hl] at HI
    clear hin hI hK hD hS hl
    gi_wp2
    have HDL : Hid (D < W.heap.size) := Lib.hid (Array.getElem?_eq_some_iff.1 HK.out).1
    have h56 := HSZ.out.2
    have HW0 := Lib.hid (show w.heap.size ≤ W0.heap.size from HI2.out.bel.size)
    subst h56
    refine wpIn_rangeFunc_ownG rfl (by omega) (gf := 46) (lb := #[.pointer (some ⟨n5 + 1, 0, none⟩)]) (by simp [go_sem]) trivial (enters_of Tryd.func46 (by kernel_rfl) rfl)
      (all_stops (ys := ys) HI.out.bx.cell HI.out.bx.lt HI.out.th) KeepT.trans (keepT_b HI.out.th.lt HI.out.bx.lt) (Below.refl _ _) (fun _ => rfl)
      (fun pre V => (pre = [] ∧ V.heap[D]? = some (.deferred (some []))) ∧ MI w bt g ys n1 n2 n3 n4 n5 false 10 V)
      (fun c _ V => (c = .exit 2 ∧ V.heap[D]? = some (.deferred (some []))) ∧ MI w bt g ys n1 n2 n3 n4 n5 false 10 V)
      (fun _ _ _ _ h hg hr => ⟨⟨h.1.1, (hg.block D (by have := (Array.getElem?_eq_some_iff.1 h.1.2).1; omega) (fun e => by have := (hr D e.symm).1; have := HDL.out; omega)).trans h.1.2⟩, h.2.keptC (cells_grown hg (fun r e => (hr r e).2)) (h.2.bel.grown hg h.2.bel.size (fun k e => by have := (hr k e).1; have := HI.out.bel.size; omega))⟩)
      (fun c _ _ _ _ h hg hr => ⟨⟨h.1.1, (hg.block D (by have := (Array.getElem?_eq_some_iff.1 h.1.2).1; omega) (fun e => by have := (hr D e.symm).1; have := HDL.out; omega)).trans h.1.2⟩, h.2.keptC (cells_grown hg (fun r e => (hr r e).2)) (h.2.bel.grown hg h.2.bel.size (fun k e => by have := (hr k e).1; have := HI.out.bel.size; omega))⟩)
      ⟨⟨rfl, HK.out⟩, HI.out⟩
      (fun x => { tmps := #[.pointer (some ⟨bt, 0, none⟩), .slice (some ⟨g, 0, none⟩) 10 10, undef, .pointer (some ⟨n1, 0, none⟩), .pointer (some ⟨n2, 0, none⟩), .pointer (some ⟨n4, 0, none⟩), .pointer (some ⟨n5, 0, none⟩), .func (.func 46) #[] #[.pointer (some ⟨n5 + 1, 0, none⟩)], undef, undef, .slice (some ⟨n3, 0, none⟩) 10 10, .pointer (some ⟨bt, 0, none⟩), .func (.func 46) #[] #[.pointer (some ⟨n5 + 1, 0, none⟩)], .func (.func 46) #[] #[.pointer (some ⟨n5 + 1, 0, none⟩)], .bool false, .func (.func 46) #[] #[.pointer (some ⟨n5 + 1, 0, none⟩)], undef, undef, undef, undef, undef, undef, undef, undef, undef, undef, undef, undef, undef, undef, undef, undef, undef, undef, undef, undef, undef, undef, undef, undef, .func (.func 46) #[] #[.pointer (some ⟨n5 + 1, 0, none⟩)], .string (tx (prt x.1)), styA (nthY ys x.1), undef, undef, undef, undef, undef, undef, undef, undef, undef, undef, undef], defers := [] }) ?assign2 ?body2 ?done2 ?stop2
    case assign2 =>
      intro l x V K hK
      unfold encY
      gi_wp2
      exact hK
    case body2 =>
      rintro l pre x V h hlt
      have H := Lib.hid h
      clear h hlt
      gi_wp2
      exact ⟨KeepsFrom.refl _ _, ⟨rfl, H.out.1.2⟩, H.out.2⟩
    case done2 =>
      rintro D2 zs V _ hz ⟨⟨rfl, _⟩, _⟩ _
      cases hz
    case stop2 =>
      rintro D2 c pre V hD2 _ ⟨⟨rfl, hD1⟩, hI2⟩ hK2
      have HI2 := Lib.hid hI2
      have HK1 := Lib.hid hD1
      have HK2 := Lib.hid hK2
      have HD2 := Lib.hid hD2
      clear hI2 hD1 hK2 hD2
      gi_wp2
      refine wpIn_wide.2 ?_
      have HC14 := Lib.hid (fun W' (hb : Below V.heap.size V W') => wprint bt ys W' ((HI2.out.kept hb).th))
      have HC38 := Lib.hid (fun W' (hb : Below V.heap.size V W') => wprintR g ys W' ((HI2.out.kept hb).rl))
      obtain ⟨PB, hPB⟩ : ∃ P, P = tx (printB ys) := ⟨_, rfl⟩
      rw [← hPB] at HC14 HC38
      clear hPB
      have hlt : n5 < V.heap.size ∧ n4 < V.heap.size ∧ n1 < V.heap.size ∧ n5 ≠ n2 ∧ n4 ≠ n2 ∧ n1 ≠ n2 := by have := HI2.out.ord; omega
      have HRD := Lib.hid (fun W' (hb : But [n2] V W') => And.intro hb (And.intro ((World.cell?_of_block (a := ⟨n5, 0, none⟩) (hb.block n5 hlt.1 (by simp; omega))).trans HI2.out.c.cell) (And.intro ((World.cell?_of_block (a := ⟨n4, 0, none⟩) (hb.block n4 hlt.2.1 (by simp; omega))).trans HI2.out.p.cell) ((World.cell?_of_block (a := ⟨n1, 0, none⟩) (hb.block n1 hlt.2.2.1 (by simp; omega))).trans HI2.out.l.cell))))
      clear hlt
      go_region_held3 (fun w' => But [n2] V w' ∧ w'.cell? ⟨n5, 0, none⟩ = some (.int .i64 10) ∧ w'.cell? ⟨n4, 0, none⟩ = some (.slice (some ⟨n3, 0, none⟩) 10 10) ∧ w'.cell? ⟨n1, 0, none⟩ = some (.slice (some ⟨g, 0, none⟩) 10 10))
        (first | exact HRD.out _ (But.refl _ _).drew | exact HRD.out _ ((But.of HGB.out).set _ _ (by simp)) | exact HRD.out _ (But.of HGB.out) | exact HRD.out _ (But.of HGA.out))
        (first | (go_at_call 38; (with_reducible refine (HC38.out _ HGA.out).mono ?_); rintro e y2 ⟨rfl, gh2⟩; have HGB := Lib.hid (keepG HGA.out rfl gh2 : Below V.heap.size V y2); have bx2 := (HI2.out.kept HGB.out).r; have bc2 := bx2.cell; have bf2 := bx2.frozen) | (go_at_call 14; (with_reducible refine (HC14.out _ (Below.refl _ _).drew).mono ?_); rintro e y1 ⟨rfl, gh1⟩; have HGA := Lib.hid (keepG (Below.refl _ _).drew rfl gh1 : Below V.heap.size V y1)))
      have HEND := Lib.hid (And.intro ((HI2.out.kept HGB.out).result true) HGB.out)
      clear bx2 bc2 bf2
      gi_wp2
      obtain ⟨Z, hZ⟩ : ∃ Z, Z = y2.setCell ⟨n2, 0, none⟩ (.bool true) := ⟨_, rfl⟩
      have hD1 : Z.heap[D]? = some (.deferred (some [])) := by
        have h1 := HK1.out
        have hlt := (Array.getElem?_eq_some_iff.1 h1).1
        have hne : D ≠ n2 := fun q => by
          have h2 := HI2.out.r
          unfold Box at h2
          rw [← q, h1] at h2
          cases h2
        rw [hZ]
        exact (set_other hne).trans ((HGB.out.block D hlt).trans h1)
      have hD2 : Z.heap[D2]? = some (.deferred (some [])) := by
        have h1 := HK2.out
        have hlt := (Array.getElem?_eq_some_iff.1 h1).1
        have hne : D2 ≠ n2 := fun q => by
          have h2 := HI2.out.r
          unfold Box at h2
          rw [← q, h1] at h2
          cases h2
        rw [hZ]
        exact (set_other hne).trans ((HGB.out.block D2 hlt).trans h1)
      have hne : D ≠ D2 := by have := HD2.out; have := HDL.out; omega
      have hE := HEND.out.1
      rw [← hZ] at hE ⊢
      have hD3 : (Z.putObj D2 (.deferred none)).heap[D]? = some (.deferred (some [])) := (World.putObj_heap_other hne).trans hD1
      refine ⟨by simp, .inl ⟨_, _, rfl, run_takeDeferred hD2, ⟨by simp, .inl ⟨_, _, rfl, run_takeDeferred hD3, ?_⟩⟩⟩⟩
      have hn1 : n2 ≠ D2 := fun q => by
        have h2 := hE.r
        unfold Box at h2
        rw [q, hD2] at h2
        cases h2
      have hn2 : n2 ≠ D := fun q => by
        have h2 := hE.r
        unfold Box at h2
        rw [q, hD1] at h2
        cases h2
      have hc : ((Z.putObj D2 (.deferred none)).putObj D (.deferred none)).cell? ⟨n2, 0, none⟩ = some (.bool true) := (World.cell?_of_block ((World.putObj_heap_other hn2).trans (World.putObj_heap_other hn1))).trans hE.r.cell
      have hsz := hE.bel.size
      have hdw : w.heap.size ≤ D := by have := HD.out; have := HW0.out; omega
      refine ⟨_, results_cell1 rfl _ _ ⟨n2, 0, none⟩ _ rfl (load_bool hc), rfl, ?_⟩
      exact (hE.bel.trans (belowK_b (w := w) (Nat.le_refl _) Z D2 _ _ (by have := HD2.out; have := HDL.out; omega) hD2 rfl rfl)).trans (belowK_b (w := w) (Nat.le_refl _) _ D _ _ hdw hD3 rfl rfl)
  case stop =>
    rintro D c pre W _ ⟨k, _, _, hk⟩ ⟨_, h2⟩ _
    exact absurd (by unfold inOrder; rw [hk]; have := congrArg List.length hk; simp at this; rw [this]) h2
end Go.Proofs.YtlhfdpeidlbomaaDoor
