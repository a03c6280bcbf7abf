/- Walks: told of a made history; SameAll. -/
import Derived.Test.YtbaljpamhmbcjaaGreatHV
namespace Go.Proofs.YtbaljpamhmbcjaaGreat
open Go.RowKit Go.Shelf
attribute [local go_sem] Oper.semAt_some
/-- The lowest block that an append to v may give. -/
theorem run_equalIn_func_nil (w : World) (d : Nat) (f : Fn) (a b : Array Value) : (Op.equalIn (d + 1) 60 (.func f a b) .nilFunc).run Tryz.prog w = .ok false w := by
  simp [Op.equalIn, run_underlying Tryz.underlying60]
theorem run_eql_func_nil (w : World) (f : Fn) (a b : Array Value) : (binOp .eql 60 (.func f a b) .nilFunc).run Tryz.prog w = .ok (.bool false) w := by
  simp only [binOp]
  simp [Op.equal, Op.maxDepth, run_equalIn_func_nil w 9999 f a b]
def baseOf (W : World) (v : Value) : Nat := v.ownBlock.getD W.heap.size
theorem rebase {w : World} {n0 : Nat} {e : TypeId} {z n : Nat} {v : Value} {xs : List Value} (h : w.ownsRow n0 e z v n xs) : w.ownsRow (baseOf w v) e z v n xs := by
  refine ⟨h.1, h.2.imp id ?_⟩
  rintro ⟨g, cap, cur, rfl, h2, h3⟩
  exact ⟨g, cap, cur, rfl, Nat.le_refl _, h3⟩
theorem baseOf_le {w : World} {n0 : Nat} {e : TypeId} {z n : Nat} {v : Value} {xs : List Value} (h : w.ownsRow n0 e z v n xs) (h0 : n0 ≤ w.heap.size) : baseOf w v ≤ w.heap.size ∧ n0 ≤ baseOf w v := by
  unfold baseOf
  cases hv : v.ownBlock with
  | none => exact ⟨Nat.le_refl _, h0⟩
  | some g =>
    have := h.lt g hv
    exact ⟨by simp only [Option.getD_some]; omega, this.1⟩
theorem row_cells {w : World} {n0 : Nat} {e : TypeId} {z n : Nat} {v : Value} {xs : List Value} (h : w.ownsRow n0 e z v n xs) : ∀ j, v.ownBlock = some j → ∃ cur, w.heap[j]? = some (.cells cur e (0, 0)) := fun j hj => by
  rcases h.2 with ⟨hv, _⟩ | ⟨g, cap, cur, hv, _, hg, _⟩
  · rw [hv] at hj; cases hj
  · rw [hv] at hj; cases hj; exact ⟨cur, hg⟩
/-- A box's slice appended to. -/
theorem app_keep {W w1 : World} {B bx : Nat} {v v' : Value} {tmp : Obj} {n0 n k' : Nat} {xs ys : List Value} (hb : Box W bx 22 v) (hr : W.ownsRow n0 9 1 v n xs) (h0 : n0 ≤ W.heap.size) (hbx : bx < n0)
    (hown : w1.ownsRow (baseOf W v) 9 1 v' k' ys) (hg : (W.alloc tmp).grownBy w1 v.ownBlock) :
    Box (w1.setCell ⟨bx, 0, none⟩ v') bx 22 v' ∧ Box w1 bx 22 v ∧ (w1.setCell ⟨bx, 0, none⟩ v').ownsRow n0 9 1 v' k' ys ∧ KeepR bx W (w1.setCell ⟨bx, 0, none⟩ v') ∧ KeepsFrom B W (w1.setCell ⟨bx, 0, none⟩ v') ∧
      (∀ j, j < n0 → j ≠ bx → (w1.setCell ⟨bx, 0, none⟩ v').heap[j]? = W.heap[j]?) ∧ W.heap.size ≤ (w1.setCell ⟨bx, 0, none⟩ v').heap.size ∧ (w1.setCell ⟨bx, 0, none⟩ v').os = W.os ∧ (w1.setCell ⟨bx, 0, none⟩ v').tape = W.tape ∧ (w1.setCell ⟨bx, 0, none⟩ v').output = W.output := by
  obtain ⟨q1, q2⟩ := baseOf_le hr h0
  have hne : ∀ j, j < n0 → some j ≠ v.ownBlock := fun j hj e => by have := (hr.lt j e.symm).1; omega
  have hk : ∀ j, j < W.heap.size → some j ≠ v.ownBlock → w1.heap[j]? = W.heap[j]? := fun j hj hn => by
    rw [hg.block j (by simp; omega) hn, Below.heap_alloc _ _ _ hj]
  have hb1 : Box w1 bx 22 v := (hk bx hb.lt (hne bx hbx)).trans hb
  have hsz : W.heap.size ≤ w1.heap.size := by have := hg.size; simp at this; omega
  refine ⟨hb1.set v', hb1, ?_, ?_, ?_, ?_, by simpa using hsz, hg.os, hg.tape, hg.output⟩
  · refine row_kept (row_lower hown q2) (fun j hj => set_other (fun e => ?_))
    have := (hown.lt j hj).1
    omega
  · have o1 : ownAt W bx = v.ownBlock := by unfold ownAt; rw [hb.cell]; rfl
    have o2 : ownAt (w1.setCell ⟨bx, 0, none⟩ v') bx = v'.ownBlock := by unfold ownAt; rw [(hb1.set v').cell]; rfl
    refine ⟨by simpa using hsz, fun j hj => ?_, fun j cur r hr2 hne2 hn => ?_⟩
    · rw [o2] at hj
      have := (hown.lt j hj).1
      rw [o1]
      unfold baseOf at this
      cases hv : v.ownBlock with
      | none => rw [hv] at this; exact .inr this
      | some g => rw [hv] at this; exact .inl ⟨g, rfl, this⟩
    · have hlt := (Array.getElem?_eq_some_iff.1 hr2).1
      rw [set_other hne2]
      exact hk j hlt (fun e => by have := hn j (o1.trans e.symm); omega)
  · refine ⟨by simpa using hsz, fun j o _ ho hc => ?_⟩
    have hlt := (Array.getElem?_eq_some_iff.1 ho).1
    have hjb : j ≠ bx := fun e => by rw [e, show W.heap[bx]? = _ from hb] at ho; cases ho; cases hc
    rw [set_other hjb, hk j hlt (fun e => ?_)]
    · exact ho
    · obtain ⟨cur, h2⟩ := row_cells hr j e.symm
      rw [h2] at ho
      cases ho
      cases hc
  · intro j hj hjb
    rw [set_other hjb]
    exact hk j (by omega) (hne j hj)
theorem cell_new1 (W : World) (a : Addr) (v x : Value) (t : TypeId) : ∀ (j : Nat) (u : Value), [x][j]? = some u → ((W.setCell a v).alloc (.cells #[x] t)).cell? ((⟨W.heap.size, 0, none⟩ : Addr).add j) = some u := fun j u hu => by
  have := cell_one_new (W.setCell a v) x t j u hu
  simpa only [World.size_setCell] using this
def okP {n : Nat} (pre : List (Fin n)) : Bool := decide (pre.map (·.1) = List.range pre.length)
theorem okP_snoc {n : Nat} (pre : List (Fin n)) (x : Fin n) : okP (pre ++ [x]) = (okP pre && decide (x.1 = pre.length)) := by
  unfold okP
  rw [List.map_append, List.length_append, List.map_cons, List.map_nil, List.length_singleton, List.range_succ, ← Bool.decide_and, decide_eq_decide]
  constructor
  · intro h
    have := List.append_inj h (by simp)
    exact ⟨this.1, by simpa using this.2⟩
  · rintro ⟨h1, h2⟩
    rw [h1, h2]
def lnsOf (L : List Bs) (pre : List (Fin L.length)) : List Bs := pre.map (fun x => L.getD x.1 [])
theorem lnsOf_range {L : List Bs} {pre : List (Fin L.length)} {k : Nat} (h : pre.map (·.1) = List.range k) (hk : k ≤ L.length) : lnsOf L pre = L.take k := by
  have e : lnsOf L pre = (pre.map (·.1)).map (fun i => L.getD i []) := by simp [lnsOf]
  rw [e, h]
  apply List.ext_getElem?
  intro i
  rw [List.getElem?_map, List.getElem?_take]
  by_cases hi : i < k
  · rw [List.getElem?_range hi, if_pos hi, List.getElem?_eq_getElem (show i < L.length by omega)]
    simp [List.getD_eq_getElem?_getD, List.getElem?_eq_getElem (show i < L.length by omega)]
  · rw [if_neg hi, List.getElem?_eq_none (by simp; omega)]
    rfl
/-- What told's loop keeps. -/
structure TI (w : World) (most : Nat) (L : List Bs) (pre : List (Fin L.length)) (W : World) : Prop where
  b3 : Box W w.heap.size 3 (.int .i64 (most : Int))
  ex : ∃ v, Box W (w.heap.size + 2) 22 v ∧ W.ownsRow (w.heap.size + 4) 9 1 v pre.length (strs (lnsOf L pre))
  b8 : Box W (w.heap.size + 3) 4 (.bool (okP pre))
  bel : Below w.heap.size w W
  sz : w.heap.size + 4 ≤ W.heap.size
theorem ti_own (w : World) (most : Nat) (L : List Bs) (B : Nat) (hB : w.heap.size ≤ B) : OwnFrom B (TI w most L) := fun _ _ _ _ h hg hr => by
  have hk := cells_grown hg (fun r e => (hr r e).2)
  obtain ⟨v, h1, h2⟩ := h.ex
  refine ⟨(hk.2 _ _ h.b3 rfl).trans h.b3, ⟨v, (hk.2 _ _ h1 rfl).trans h1, ?_⟩, (hk.2 _ _ h.b8 rfl).trans h.b8, h.bel.grown hg h.bel.size (fun k e => by have := (hr k e).1; omega), Nat.le_trans h.sz hg.size⟩
  exact row_kept h2 (fun j hj => by
    obtain ⟨cur, hc⟩ := row_cells h2 j hj
    exact hk.2 _ _ hc rfl)
theorem keepR_set2 {bx j0 : Nat} {W : World} {v : Value} {cur : Array Value} {t : TypeId} {r : Nat × Nat} (h : W.heap[j0]? = some (.cells cur t r)) (ht : t ≠ 9) (hne : bx ≠ j0) : KeepR bx W (W.setCell ⟨j0, 0, none⟩ v) := by
  have e : ownAt (W.setCell ⟨j0, 0, none⟩ v) bx = ownAt W bx := by unfold ownAt; rw [World.cell?_of_block (a := ⟨bx, 0, none⟩) (set_other hne)]
  refine ⟨by simp, fun j hj => .inl ⟨j, by rwa [e] at hj, Nat.le_refl _⟩, fun j cur2 r2 hr _ _ => set_other (fun q => ?_)⟩
  subst q
  rw [h] at hr
  cases hr
  exact ht rfl
theorem ti_next {w : World} {most : Nat} {L : List Bs} {pre : List (Fin L.length)} {y : Fin L.length} {W F : World} {O2 : Bool} {v' : Value} {n B : Nat} {X : ByteArray} (hI : TI w most L pre W) (hO : O2 = okP (pre ++ [y])) (hn : n = pre.length) (hX : X = lnT L y.1) (hB : w.heap.size + 4 ≤ B)
    (q1 : Box F (w.heap.size + 2) 22 v') (q3 : F.ownsRow (w.heap.size + 4) 9 1 v' (n + 1) (strs (lnsOf L pre) ++ [.string X])) (q4 : KeepR (w.heap.size + 2) (W.setCell ⟨w.heap.size + 3, 0, none⟩ (.bool O2)) F) (q5 : KeepsFrom B (W.setCell ⟨w.heap.size + 3, 0, none⟩ (.bool O2)) F)
    (q6 : ∀ j, j < w.heap.size + 4 → j ≠ w.heap.size + 2 → F.heap[j]? = (W.setCell ⟨w.heap.size + 3, 0, none⟩ (.bool O2)).heap[j]?) (q7 : (W.setCell ⟨w.heap.size + 3, 0, none⟩ (.bool O2)).heap.size ≤ F.heap.size) (q8 : F.os = W.os) (q9 : F.tape = W.tape) (q10 : F.output = W.output) :
    KeepsFrom B W F ∧ KeepR (w.heap.size + 2) W F ∧ TI w most L (pre ++ [y]) F := by
  refine ⟨(keepsFrom_set _ _ _ (show w.heap.size + 3 < B by omega)).trans q5, (keepR_set2 hI.b8 (by decide) (by omega)).trans q4, ?_⟩
  subst hO hn hX
  refine ⟨(q6 _ (by omega) (by omega)).trans ((set_other (by omega)).trans hI.b3), ⟨v', q1, ?_⟩, (q6 _ (by omega) (by omega)).trans (hI.b8.set _), ?_, ?_⟩
  · rw [List.length_append, List.length_singleton]
    have e : strs (lnsOf L (pre ++ [y])) = strs (lnsOf L pre) ++ [.string (lnT L y.1)] := by simp [lnsOf, strs, lnT]
    rw [e]
    exact q3
  · have h1 := hI.bel
    have h2 := hI.sz
    refine ⟨q8.trans h1.os, q9.trans h1.tape, q10.trans h1.output, ?_, fun j hj => (q6 j (by omega) (by omega)).trans ((set_other (by omega)).trans (h1.block j hj))⟩
    simp at q7
    omega
  · have h2 := hI.sz
    simp at q7
    omega
/-- told's ending. -/
def ToldH (L : List Bs) (most : Nat) (w : World) (e : Ending) (w' : World) : Prop := ∃ x cap, e = .returned (.tuple #[.slice x (L.take most).length cap, .bool true]) ∧ RowL w' x cap (L.take most) ∧ Below w.heap.size w w'
theorem row_put {w : World} {base : Nat} {n : Nat} {v : Value} {xs : List Value} {D : Nat} {o o' : Obj} (h : w.ownsRow base 9 1 v n xs) (hD : w.heap[D]? = some o) (hc : o.isCells = false) : (w.putObj D o').ownsRow base 9 1 v n xs :=
  row_kept h (fun j hj => World.putObj_heap_other (fun e => by
    obtain ⟨cur, h2⟩ := row_cells h j hj
    rw [e, hD] at h2
    cases h2
    cases hc))
theorem told_fin {w W : World} {most D k : Nat} {L : List Bs} {pre : List (Fin L.length)} (hI : TI w most L pre W) (hS : pre.map (·.1) = List.range k) (hk : k ≤ L.length) (ht : L.take most = L.take k) (hK : W.heap[D]? = some (.deferred (some []))) (hD : w.heap.size ≤ D) (x : Option Addr) (cap : Nat) (hr : W.ownsRow (w.heap.size + 4) 9 1 (.slice x pre.length cap) pre.length (strs (lnsOf L pre))) :
    RowL (W.drew.putObj D (.deferred none)) x cap (L.take most) ∧ Below w.heap.size w (W.drew.putObj D (.deferred none)) := by
  have hl : pre.length = k := by have := congrArg List.length hS; simpa using this
  have hr2 : W.drew.ownsRow (w.heap.size + 4) 9 1 (.slice x pre.length cap) pre.length (strs (lnsOf L pre)) := hr
  refine ⟨?_, hI.bel.drew.trans (belowK_b (w := w) (Nat.le_refl _) W.drew D _ _ hD hK rfl rfl)⟩
  have h1 := row_base (row_put (o' := .deferred none) hr2 hK rfl)
  rw [lnsOf_range hS hk, hl] at h1
  unfold RowL
  rw [ht, List.length_take, Nat.min_eq_left hk]
  exact h1
set_option maxRecDepth 100000 in
set_option maxHeartbeats 4000000 in
theorem wHtold (b : Nat) (m : Int) (hm : 0 < m) (L : List Bs) (hL : L.length ≤ 1000) (k : Wk) (x : Option Addr) (c : Nat) (most : Nat) (hmm : most ≤ 1000) (w : World) (h : His w b m L k x c) : Calls Tryz.prog 27 #[.pointer (some ⟨b, 0, none⟩), .int .i64 (most : Int)] w (ToldH L most w) := by
  have hfn := run_eql_func_nil
  obtain ⟨i0, hi, hz0, hz1, hz2⟩ := info_parts9
  have HI9 := Lib.hid (And.intro hi (And.intro hz0 (And.intro hz1 hz2)))
  have HU := Lib.hid h
  have HM := Lib.hid (And.intro hm (And.intro hL hmm))
  clear h hm hL hmm hi hz0 hz1 hz2
  refine (callsIn_wide (n := 6)).1 ?_
  refine callsIn_of_wp_marks Tryz.func27 rfl trivial ?_ rfl
  simp only [Tryz.ntmps27, List.size_toArray, List.length_cons, List.length_nil, Nat.reduceAdd, Nat.reduceSub, Array.replicate_succ, Array.replicate_zero, List.push_toArray, List.append_toArray, List.nil_append, List.cons_append]
  gi_wp2_with (first | (refine ⟨trivial, ?_⟩; gi_at_call 29; refine (callsIn_wide.2 (wHAll _ _)).mono ?_; rintro e w1 ⟨rfl, rfl⟩))
  clear hfn
  have hb2 : Below w.heap.size w ((((w.alloc (.cells #[.int .i64 (most : Int)] 3)).alloc (.cells #[.pointer (some ⟨b, 0, none⟩)] 23)).alloc (.cells #[.slice none 0 0] 22)).alloc (.cells #[.bool true] 4)) := ((((Below.refl _ _).alloc (Nat.le_refl _) _).alloc (by simp) _).alloc (by simp; omega) _).alloc (by simp; omega) _
  have h3 : Box ((((w.alloc (.cells #[.int .i64 (most : Int)] 3)).alloc (.cells #[.pointer (some ⟨b, 0, none⟩)] 23)).alloc (.cells #[.slice none 0 0] 22)).alloc (.cells #[.bool true] 4)) w.heap.size 3 (.int .i64 (most : Int)) := (heap_alloc_old _ _ (by simp; omega)).trans ((heap_alloc_old _ _ (by simp; omega)).trans ((heap_alloc_old _ _ (by simp)).trans (heap_alloc_new _ _)))
  have h7 : Box (((w.alloc (.cells #[.int .i64 (most : Int)] 3)).alloc (.cells #[.pointer (some ⟨b, 0, none⟩)] 23)).alloc (.cells #[.slice none 0 0] 22)) (w.heap.size + 2) 22 (.slice none 0 0) := by
    have := heap_alloc_new ((w.alloc (.cells #[.int .i64 (most : Int)] 3)).alloc (.cells #[.pointer (some ⟨b, 0, none⟩)] 23)) (.cells #[.slice none 0 0] 22)
    unfold Box
    simpa only [World.size_alloc, Nat.add_assoc] using this
  have h8 : Box ((((w.alloc (.cells #[.int .i64 (most : Int)] 3)).alloc (.cells #[.pointer (some ⟨b, 0, none⟩)] 23)).alloc (.cells #[.slice none 0 0] 22)).alloc (.cells #[.bool true] 4)) (w.heap.size + 3) 4 (.bool true) := by
    have := heap_alloc_new (((w.alloc (.cells #[.int .i64 (most : Int)] 3)).alloc (.cells #[.pointer (some ⟨b, 0, none⟩)] 23)).alloc (.cells #[.slice none 0 0] 22)) (.cells #[.bool true] 4)
    unfold Box
    simpa only [World.size_alloc, Nat.add_assoc] using this
  have HI : Hid (TI w most L [] ((((w.alloc (.cells #[.int .i64 (most : Int)] 3)).alloc (.cells #[.pointer (some ⟨b, 0, none⟩)] 23)).alloc (.cells #[.slice none 0 0] 22)).alloc (.cells #[.bool true] 4))) := Lib.hid ⟨h3, ⟨_, (heap_alloc_old _ _ (by simp)).trans h7, World.ownsRow_nil _ _ _ _⟩, h8, hb2, by simp⟩
  have HC : Hid (((((w.alloc (.cells #[.int .i64 (most : Int)] 3)).alloc (.cells #[.pointer (some ⟨b, 0, none⟩)] 23)).alloc (.cells #[.slice none 0 0] 22)).alloc (.cells #[.bool true] 4)).cell? ⟨w.heap.size + 1, 0, none⟩ = some (.pointer (some ⟨b, 0, none⟩)) ∧ His ((((w.alloc (.cells #[.int .i64 (most : Int)] 3)).alloc (.cells #[.pointer (some ⟨b, 0, none⟩)] 23)).alloc (.cells #[.slice none 0 0] 22)).alloc (.cells #[.bool true] 4)) b m L k x c ∧ ownAt ((((w.alloc (.cells #[.int .i64 (most : Int)] 3)).alloc (.cells #[.pointer (some ⟨b, 0, none⟩)] 23)).alloc (.cells #[.slice none 0 0] 22)).alloc (.cells #[.bool true] 4)) (w.heap.size + 2) = none) := Lib.hid ⟨by simp [go_sem], HU.out.below hb2, by
    unfold ownAt
    rw [Box.cell ((heap_alloc_old _ _ (by simp)).trans h7)]
    rfl⟩
  clear hb2 h3 h7 h8
  generalize (((w.alloc (.cells #[.int .i64 (most : Int)] 3)).alloc (.cells #[.pointer (some ⟨b, 0, none⟩)] 23)).alloc (.cells #[.slice none 0 0] 22)).alloc (.cells #[.bool true] 4) = W0 at HI HC ⊢
  refine wpIn_rangeFunc_ownH rfl (by omega) (gf := 41) (lb := #[.pointer (some ⟨w.heap.size + 1, 0, none⟩)]) (by simp [go_sem]) trivial (enters_of Tryz.func41 (by kernel_rfl) rfl)
    (hall_stops (bx := w.heap.size + 2) HM.out.1 HM.out.2.1 HC.out.2.1 (by have := HI.out.sz; omega) HC.out.1 (by have := HI.out.sz; omega) HC.out.2.2) KeepR.trans (keepR_b (by have := HI.out.sz; omega)) (Below.refl _ _) (fun _ => rfl)
    (fun (pre : List (Fin L.length)) W => TI w most L pre W ∧ pre.length ≤ most)
    (fun ce xs W => ce = .exit 0 ∧ xs.length = most + 1 ∧ TI w most L xs.dropLast W)
    (OwnFrom.and (ti_own w most L _ HI.out.bel.size) (fun _ _ _ _ h _ _ => h))
    (fun ce => OwnFrom.and (fun _ _ _ _ h _ _ => h) (OwnFrom.and (fun _ _ _ _ h _ _ => h) (fun s A B row h hg hr => ti_own w most L _ HI.out.bel.size s.dropLast A B row h hg hr)))
    ⟨HI.out, Nat.zero_le _⟩
    (fun y a' _ => a' = { tmps := #[.pointer (some ⟨b, 0, none⟩), .int .i64 (most : Int), undef, .pointer (some ⟨w.heap.size, 0, none⟩), .slice none 0 0, .bool false, .func (.func 41) #[] #[.pointer (some ⟨w.heap.size + 1, 0, none⟩)], .pointer (some ⟨w.heap.size + 1 + 1, 0, none⟩), .pointer (some ⟨w.heap.size + 1 + 1 + 1, 0, none⟩), .int .i64 (y.1 : Nat), .string (lnT L y.1), .pointer (some ⟨b, 0, none⟩), .func (.func 41) #[] #[.pointer (some ⟨w.heap.size + 1, 0, none⟩)], .func (.func 41) #[] #[.pointer (some ⟨w.heap.size + 1, 0, none⟩)], .bool false, .func (.func 41) #[] #[.pointer (some ⟨w.heap.size + 1, 0, none⟩)], .int .i64 (y.1 : Nat), .string (lnT L y.1), undef, undef, undef, undef, undef, undef, undef, undef, undef, undef, undef, undef, undef, undef, undef, undef, undef], defers := [] })
    (fun _ _ _ _ _ _ h _ _ => h) ?assign ?body ?done ?stop
  case assign =>
    intro l pre x W K hI hK
    unfold fenc lenc
    have H := Lib.hid hK
    clear hK
    gi_wp2
    exact H.out _ _ (keepsFrom_below (Below.refl _ _)) (KeepR.refl _ _) hI rfl
  case body =>
    rintro l pre y a' W hl' _ ⟨hI, hp⟩ rfl hlt
    obtain ⟨v, hb7, hrow⟩ := hI.ex
    obtain ⟨x7, cap, rfl⟩ := ownsRow_is hrow
    have c3 := hI.b3.cell
    have c7 := hb7.cell
    have c8 := hI.b8.cell
    have f8 := hI.b8.frozen
    have HII := Lib.hid hI
    have HRW := Lib.hid hrow
    have HB7 := Lib.hid hb7
    have HP := Lib.hid hp
    have hsz := hI.sz
    by_cases hge : most ≤ pre.length
    · have i1 : (most : Int) ≤ (pre.length : Int) := by omega
      have HGE := Lib.hid hge
      clear hI hb7 hrow hp hge hlt
      gi_wp2
      exact ⟨KeepsFrom.refl _ _, rfl, by have := HGE.out; have := HP.out; simp; omega, by rw [List.dropLast_concat]; exact HII.out⟩
    · have i1 : ¬ (most : Int) ≤ (pre.length : Int) := by omega
      have HGE := Lib.hid hge
      have HSN := Lib.hid (okP_snoc pre y)
      obtain ⟨O2, hO2⟩ : ∃ O2, O2 = okP (pre ++ [y]) := ⟨_, rfl⟩
      have HO2 := Lib.hid hO2
      rw [← hO2] at HSN
      obtain ⟨O, hO⟩ : ∃ O, O = okP pre := ⟨_, rfl⟩
      rw [← hO] at HSN c8
      have hbx : Box (W.setCell ⟨w.heap.size + 3, 0, none⟩ (.bool O2)) (w.heap.size + 2) 22 (.slice x7 pre.length cap) := (set_other (by omega)).trans hb7
      have hrw1 : (W.setCell ⟨w.heap.size + 3, 0, none⟩ (.bool O2)).ownsRow (w.heap.size + 4) 9 1 (.slice x7 pre.length cap) pre.length (strs (lnsOf L pre)) := row_kept hrow (fun j hj => set_other (fun e => by have := (hrow.lt j hj).1; omega))
      have HRB := Lib.hid (rebase hrw1)
      have HKP := Lib.hid (fun (w1 : World) (v' : Value) (k' : Nat) (ys : List Value) (tmp : Obj) ho hg => app_keep (B := W0.heap.size) (w1 := w1) (v' := v') (k' := k') (ys := ys) (tmp := tmp) hbx hrw1 (by simpa using hsz) (by omega) ho hg)
      have HBS := Lib.hid (show baseOf (W.setCell ⟨w.heap.size + 3, 0, none⟩ (.bool O2)) (.slice x7 pre.length cap) ≤ W.heap.size by simpa using (baseOf_le hrw1 (by simpa using hsz)).1)
      obtain ⟨X, hX⟩ : ∃ X, X = lnT L y.1 := ⟨_, rfl⟩
      have HX := Lib.hid hX
      rw [← hX]
      obtain ⟨yv, hyv⟩ : ∃ yv, yv = y.1 := ⟨_, rfl⟩
      rw [← hyv] at HSN ⊢
      have HYV := Lib.hid hyv
      obtain ⟨N, hN⟩ : ∃ N, N = pre.length := ⟨_, rfl⟩
      have HN := Lib.hid hN
      rw [← hN] at i1 HSN c7 HRB HKP HBS
      have HL := Lib.hid (show N ≤ 1000 by have := HM.out.2.2; omega)
      have h7w : w.heap.size + 2 < W.heap.size := by omega
      have h8w : w.heap.size + 3 < W.heap.size := by omega
      clear hI hb7 hrow hp hge hlt hO2 hO hbx hrw1 hX hyv hN
      have hcases : (O = false ∧ O2 = false) ∨ (O = true ∧ yv = N ∧ O2 = true) ∨ (O = true ∧ ((yv : Int) == (N : Int)) = false ∧ O2 = false) := by
        have := HSN.out
        cases O
        · exact .inl ⟨rfl, by simpa using this⟩
        · by_cases e : yv = N
          · exact .inr (.inl ⟨rfl, e, by simpa [e] using this⟩)
          · exact .inr (.inr ⟨rfl, by rw [beq_eq_false_iff_ne]; omega, by simpa [e] using this⟩)
      rcases hcases with ⟨rfl, rfl⟩ | ⟨rfl, rfl, rfl⟩ | ⟨rfl, hq, rfl⟩
      all_goals
        clear HSN
        have HCN := Lib.hid (fun (O : Bool) j u hu => cell_new1 W ⟨w.heap.size + 3, 0, none⟩ (.bool O) (.string X) 9 j u hu)
        gi_wp2_with (first | (gi_at_builtin; go_loud (refine wpListIn_append_own _ rfl _ _ 22 rfl (baseOf (W.setCell ⟨w.heap.size + 3, 0, none⟩ (.bool _)) (.slice x7 _ cap)) 9 i0 (.string ⟨#[]⟩) 1 16 Tryz.underlying22 HI9.out.1 HI9.out.2.1 HI9.out.2.2.1 HI9.out.2.2.2 rfl (by decide) _ _ _ rfl (HRB.out.alloc _) ⟨W.heap.size, 0, none⟩ 1 1 [.string X] rfl rfl (HCN.out _) (by simp [Value.oneCell']) (by have := HL.out; unfold maxLen; omega) (by have := HL.out; omega) (by have := HBS.out; simp; omega) ?_); intro v1 w1 hown1 hgrow1 hnil1; obtain ⟨q1, q2, q3, q4, q5, q6, q7, q8, q9, q10⟩ := HKP.out w1 v1 _ _ _ hown1 hgrow1; have HT := Lib.hid (ti_next HII.out HO2.out HN.out HX.out (by have := HI.out.sz; omega) q1 q3 q4 q5 q6 q7 q8 q9 q10); obtain ⟨gg, cp, rfl⟩ := ownsRow_is hown1; have cc := q2.cell; have ff := q2.frozen; have ll := q2.lt; clear q1 q2 q3 q4 q5 q6 q7 q8 q9 q10 hown1 hgrow1 hnil1))
        exact ⟨HT.out.1, HT.out.2.1, HT.out.2.2, by have := HGE.out; have := HP.out; simp; omega⟩
  case done =>
    rintro D xs W hD hS ⟨hI, hp⟩ hK
    have hl : xs.length = L.length := by have := congrArg List.length hS; simpa using this
    obtain ⟨v, hb7, hrow⟩ := hI.ex
    obtain ⟨x7, cap, rfl⟩ := ownsRow_is hrow
    have c7 := hb7.cell
    have c8 := hI.b8.cell
    have hO : okP xs = true := by unfold okP; rw [hS, hl]; simp
    rw [hO] at c8
    have e1 : (L.take most).length = L.length := by simp; omega
    have HE := Lib.hid e1
    rw [hl] at c7
    have HT2 := told_fin hI hS (Nat.le_refl _) (by rw [List.take_of_length_le (Nat.le_refl _), List.take_of_length_le (by omega)]) hK (by have := HI.out.sz; omega) x7 cap hrow
    have HK := Lib.hid (show W.drew.heap[D]? = some (.deferred (some [])) from hK)
    clear hI hb7 hrow hK hD hS hp hl hO
    have HT := Lib.hid HT2
    clear HT2
    gi_wp2
    gi_region
    gi_wp2
    refine ⟨by simp, .inl ⟨_, _, rfl, run_takeDeferred HK.out, ?_⟩⟩
    exact ⟨_, results_tmp2 rfl _ _ _, x7, cap, by rw [HE.out]; rfl, HT.out.1, HT.out.2⟩
  case stop =>
    rintro D ce pre W hD ⟨k, hk1, hk2, hk3⟩ ⟨rfl, hlen, hI⟩ hK
    have hl : pre.length = k := by have := congrArg List.length hk3; simpa using this
    have hk : k = most + 1 := by omega
    subst hk
    have hd : pre.dropLast.map (·.1) = List.range most := by rw [List.map_dropLast, hk3, List.range_succ, List.dropLast_concat]
    have hdl : pre.dropLast.length = most := by rw [List.length_dropLast]; omega
    obtain ⟨v, hb7, hrow⟩ := hI.ex
    obtain ⟨x7, cap, rfl⟩ := ownsRow_is hrow
    have c7 := hb7.cell
    have c8 := hI.b8.cell
    have hO : okP pre.dropLast = true := by unfold okP; rw [hd, hdl]; simp
    rw [hO] at c8
    have e1 : (L.take most).length = most := by simp; omega
    have HE := Lib.hid e1
    rw [hdl] at c7
    have HT2 := told_fin hI hd (by omega) rfl hK (by have := HI.out.sz; omega) x7 cap hrow
    have HK := Lib.hid (show W.drew.heap[D]? = some (.deferred (some [])) from hK)
    clear hI hb7 hrow hK hD hk1 hk2 hk3 hl hO hd hdl hlen
    have HT := Lib.hid HT2
    clear HT2
    gi_wp2
    gi_region
    gi_wp2
    refine ⟨by simp, .inl ⟨_, _, rfl, run_takeDeferred HK.out, ?_⟩⟩
    exact ⟨_, results_tmp2 rfl _ _ _, x7, cap, by rw [HE.out]; rfl, HT.out.1, HT.out.2⟩
end Go.Proofs.YtbaljpamhmbcjaaGreat
