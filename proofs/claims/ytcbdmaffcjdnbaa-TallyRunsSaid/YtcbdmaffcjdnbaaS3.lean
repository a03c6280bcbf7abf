/- Runs: frames; the small methods of a tally. -/
import Derived.Test.YtcbdmaffcjdnbaaS2
import Derived.Deep.RegionHeld3
namespace Go.Proofs.Ytcbdmaffcjdnbaa
open Go.RowKit Go.Shelf Go.Maps
/-- Nothing old has turned but some blocks. -/
structure But (l : List Nat) (w w' : World) : Prop where
  os : w'.os = w.os
  tape : w'.tape = w.tape
  output : w'.output = w.output
  size : w.heap.size ≤ w'.heap.size
  block : ∀ j, j < w.heap.size → j ∉ l → w'.heap[j]? = w.heap[j]?
theorem But.refl (l : List Nat) (w : World) : But l w w := ⟨rfl, rfl, rfl, Nat.le_refl _, fun _ _ _ => rfl⟩
theorem But.trans {l : List Nat} {a b c : World} (h : But l a b) (k : But l b c) : But l a c :=
  ⟨k.os.trans h.os, k.tape.trans h.tape, k.output.trans h.output, Nat.le_trans h.size k.size, fun j hj hl => (k.block j (by have := h.size; omega) hl).trans (h.block j hj hl)⟩
theorem But.of {l : List Nat} {w w' : World} (h : Below w.heap.size w w') : But l w w' := ⟨h.os, h.tape, h.output, h.size, fun j hj _ => h.block j hj⟩
theorem But.set {l : List Nat} {w w' : World} (h : But l w w') (a : Addr) (v : Value) (ha : a.block ∈ l) : But l w (w'.setCell a v) :=
  ⟨h.os, h.tape, h.output, by simpa using h.size, fun j hj hl => (Below.heap_setCell _ _ _ _ (fun e => hl (by rw [e]; exact ha))).trans (h.block j hj hl)⟩
theorem But.alloc {l : List Nat} {w w' : World} (h : But l w w') (o : Obj) : But l w (w'.alloc o) := h.trans (But.of ((Below.refl _ _).alloc (Nat.le_refl _) o))
theorem But.drew {l : List Nat} {w w' : World} (h : But l w w') : But l w w'.drew := h.trans (But.of (Below.refl _ _).drew)
theorem But.below {l : List Nat} {w w' w2 : World} (h : But l w w') (k : Below w'.heap.size w' w2) : But l w w2 := h.trans (But.of k)
theorem But.grown {l : List Nat} {w w' w2 : World} {row : Option Nat} (h : But l w w') (hg : w'.grownBy w2 row) (hr : ∀ j, row = some j → j ∈ l) : But l w w2 :=
  ⟨hg.os.trans h.os, hg.tape.trans h.tape, hg.output.trans h.output, Nat.le_trans h.size hg.size, fun j hj hl => (hg.block j (by have := h.size; omega) (fun e => hl (hr j e.symm))).trans (h.block j hj hl)⟩
theorem But.sub {l l' : List Nat} {w w' : World} (h : But l w w') (hs : ∀ j, j ∈ l → j < w.heap.size → j ∈ l') : But l' w w' := ⟨h.os, h.tape, h.output, h.size, fun j hj hl => h.block j hj (fun q => hl (hs j q hj))⟩
theorem But.toBelow {l : List Nat} {n : Nat} {w w' : World} (h : But l w w') (hn : n ≤ w.heap.size) (hl : ∀ j, j ∈ l → n ≤ j) : Below n w w' :=
  ⟨h.os, h.tape, h.output, h.size, fun j hj => h.block j (by omega) (fun q => by have := hl j q; omega)⟩
theorem But.heap {l : List Nat} {w w' : World} (h : But l w w') {j : Nat} {o : Obj} (hj : w.heap[j]? = some o) (hl : j ∉ l) : w'.heap[j]? = some o := by
  rw [h.block j ((Array.getElem?_eq_some_iff.1 hj).1) hl]; exact hj
/-- The tally's own block. -/
def TCells (w : World) (b : Nat) (S : TS) (ov : Value) (mb : Nat) : Prop := w.heap[b]? = some (.cells #[.int .i64 S.bound, .int .i64 S.over, .int .i64 S.c, .int .i64 S.a, .int .i64 S.t, ov, .map (some mb)] 42 (0, 0))
def names (ks : List Kd) : List Value := ks.map fun k => .string k.s
structure TalI (w : World) (n0 b mb m : Nat) (ov : Value) (S : TS) : Prop where
  cells : TCells w b S ov mb
  row : w.ownsRow n0 9 1 ov S.ks.length (names S.ks)
  map : MapIs w mb m S.ks
  lb : n0 ≤ b
  lm : n0 ≤ mb
theorem TCells.get {w : World} {b : Nat} {S : TS} {ov : Value} {mb : Nat} (h : TCells w b S ov mb) : w.cell? ⟨b, 0, none⟩ = some (.int .i64 S.bound) ∧ w.cell? ⟨b, 1, none⟩ = some (.int .i64 S.over) ∧ w.cell? ⟨b, 2, none⟩ = some (.int .i64 S.c) ∧ w.cell? ⟨b, 3, none⟩ = some (.int .i64 S.a) ∧ w.cell? ⟨b, 4, none⟩ = some (.int .i64 S.t) ∧ w.cell? ⟨b, 5, none⟩ = some ov ∧ w.cell? ⟨b, 6, none⟩ = some (.map (some mb)) ∧ (∀ o, w.frozen? ⟨b, o, none⟩ = false) ∧ b < w.heap.size := by
  unfold TCells at h
  exact ⟨by simp [World.cell?, h], by simp [World.cell?, h], by simp [World.cell?, h], by simp [World.cell?, h], by simp [World.cell?, h], by simp [World.cell?, h], by simp [World.cell?, h], fun o => by simp [World.frozen?, h], (Array.getElem?_eq_some_iff.1 h).1⟩
theorem row_block {w : World} {n0 : Nat} {e : TypeId} {z n : Nat} {v : Value} {xs : List Value} (h : w.ownsRow n0 e z v n xs) {j : Nat} (hj : v.ownBlock = some j) : ∃ cur, w.heap[j]? = some (.cells cur e (0, 0)) ∧ n0 ≤ j := by
  rcases h.2 with ⟨rfl, _⟩ | ⟨g, cap, cur, rfl, hb, hg, _⟩
  · simp [Value.ownBlock] at hj
  · obtain rfl : g = j := by simpa [Value.ownBlock] using hj
    exact ⟨cur, hg, hb⟩
theorem row_kept {w w' : World} {n0 : Nat} {e : TypeId} {z n : Nat} {v : Value} {xs : List Value} (h : w.ownsRow n0 e z v n xs) (hk : ∀ j, v.ownBlock = some j → w'.heap[j]? = w.heap[j]?) : w'.ownsRow n0 e z v n xs := by
  refine ⟨h.1, ?_⟩
  rcases h.2 with q | ⟨g, cap, cur, rfl, hb, hg, r⟩
  · exact .inl q
  · exact .inr ⟨g, cap, cur, rfl, hb, (hk g rfl).trans hg, r⟩
/-- A tally is kept where its blocks are. -/
theorem TalI.keep {w w' : World} {n0 b mb m : Nat} {ov : Value} {S : TS} (h : TalI w n0 b mb m ov S) {l : List Nat} (hB : But l w w') (hl : ∀ j, j ∈ l → ∀ cur, w.heap[j]? ≠ some (.cells cur 42 (0, 0)) ∧ w.heap[j]? ≠ some (.cells cur 9 (0, 0))) (hm : mb ∉ l) : TalI w' n0 b mb m ov S := by
  refine ⟨hB.heap h.cells (fun q => (hl b q _).1 h.cells), row_kept h.row (fun j hj => ?_), h.map.block (hB.block mb h.map.lt hm), h.lb, h.lm⟩
  obtain ⟨cur, hg, _⟩ := row_block h.row hj
  exact hB.block j (Array.getElem?_eq_some_iff.1 hg).1 (fun q => (hl j q _).2 hg)
theorem TalI.below {w w' : World} {n0 b mb m : Nat} {ov : Value} {S : TS} (h : TalI w n0 b mb m ov S) (hB : Below w.heap.size w w') : TalI w' n0 b mb m ov S :=
  h.keep (But.of (l := []) hB) (fun _ q => absurd q List.not_mem_nil) List.not_mem_nil
theorem made_yes (w : World) (b mb : Nat) (hc : w.cell? ⟨b, 6, none⟩ = some (.map (some mb))) : Calls Try.prog 27 #[.pointer (some ⟨b, 0, none⟩)] w fun e w' => e = .returned (.bool true) ∧ w = w' := by
  have hm := fun w' : World => run_neq_map_nil (P := Try.prog) w' 40 9 38 (some mb) Try.underlying40
  go_enter Try.func27, Try.ntmps27; go_wp2; go_ret; exact ⟨rfl, rfl⟩
theorem over_yes {w : World} {n0 b mb m : Nat} {ov : Value} {S : TS} (h : TalI w n0 b mb m ov S) : Calls Try.prog 18 #[.pointer (some ⟨b, 0, none⟩)] w fun e w' => e = .returned (.int .i64 S.over) ∧ w = w' := by
  obtain ⟨c0, c1, c2, c3, c4, c5, c6, hf, hl⟩ := h.cells.get
  have H6 := Lib.hid c6
  clear h c0 c2 c3 c4 c5 c6 hf
  go_enter Try.func18, Try.ntmps18
  go_wp2_with (go_at_call 27; refine (made_yes _ _ _ H6.out).mono ?_; rintro e w' ⟨rfl, rfl⟩)
  go_ret
  exact ⟨rfl, rfl⟩
theorem TCells.bound {w : World} {b : Nat} {S : TS} {ov : Value} {mb : Nat} (h : TCells w b S ov mb) (x : Int) : TCells (w.setCell ⟨b, 0, none⟩ (.int .i64 x)) b { S with bound := x } ov mb := by
  unfold TCells at h ⊢
  obtain ⟨hlt, hk⟩ := Array.getElem?_eq_some_iff.1 h
  show (w.heap.modify b _)[b]? = _
  rw [Array.getElem?_eq_getElem (by rw [Array.size_modify]; exact hlt), Array.getElem_modify_self, hk]
  rfl
theorem set_other {w : World} {b j : Nat} {o : Nat} {v : Value} (h : j ≠ b) : (w.setCell ⟨b, o, none⟩ v).heap[j]? = w.heap[j]? := Below.heap_setCell _ _ _ _ h
theorem TalI.sep {w : World} {n0 b mb m : Nat} {ov : Value} {S : TS} (h : TalI w n0 b mb m ov S) : mb ≠ b ∧ ∀ j, ov.ownBlock = some j → j ≠ b ∧ j ≠ mb := by
  have hmap := h.map
  obtain ⟨D, n, _, ⟨es, clock, hm, _⟩, _⟩ := hmap
  have hc := h.cells
  unfold TCells at hc
  refine ⟨fun e => ?_, fun j hj => ?_⟩
  · subst e; rw [hm] at hc; cases hc
  · obtain ⟨cur, hg, _⟩ := row_block h.row hj
    refine ⟨fun e => ?_, fun e => ?_⟩
    · subst e; rw [hg] at hc; simp at hc
    · subst e; rw [hg] at hm; cases hm
theorem TalI.bound {w : World} {n0 b mb m : Nat} {ov : Value} {S : TS} (h : TalI w n0 b mb m ov S) (x : Int) : TalI (w.setCell ⟨b, 0, none⟩ (.int .i64 x)) n0 b mb m ov { S with bound := x } := by
  obtain ⟨s1, s2⟩ := h.sep
  exact ⟨h.cells.bound x, row_kept h.row (fun j hj => set_other (s2 j hj).1), h.map.block (set_other s1), h.lb, h.lm⟩
def reS (S : TS) (W H : Int) : TS := if bndE W H = 0 then { S with bound := bndN W H } else S
def ResizeEnd (w : World) (n0 b mb m : Nat) (ov : Value) (S : TS) (W H : Int) (e : Ending) (w' : World) : Prop := e = .returned (.int .i64 (bndE W H)) ∧ TalI w' n0 b mb m ov (reS S W H) ∧ But [b] w w'
theorem resize_yes {w : World} {n0 b mb m : Nat} {ov : Value} {S : TS} (h : TalI w n0 b mb m ov S) (W H : Int) : Calls Try.prog 17 #[.pointer (some ⟨b, 0, none⟩), .int .i64 W, .int .i64 H] w (ResizeEnd w n0 b mb m ov S W H) := by
  obtain ⟨c0, c1, c2, c3, c4, c5, c6, hf, hl⟩ := h.cells.get
  have H6 := Lib.hid c6
  have HT := Lib.hid h
  have hf0 := hf 0
  clear h c1 c2 c3 c4 c5 c6 hf
  by_cases q : bndE W H = 0
  · have HE := Lib.hid q
    have t1 : (bndE W H != 0) = false := by simpa using q
    clear q
    go_enter Try.func17, Try.ntmps17
    go_wp2_with (first | (go_at_call 27; refine (made_yes _ _ _ H6.out).mono ?_; rintro e w' ⟨rfl, rfl⟩) | (go_at_call 7; refine (tbound _ _ _).mono ?_; rintro e w' ⟨rfl, rfl⟩))
    go_ret
    refine ⟨by rw [HE.out]; rfl, ?_, (But.refl _ _).set _ _ (by simp)⟩
    unfold reS; rw [if_pos HE.out]; exact HT.out.bound _
  · have HE := Lib.hid q
    have t1 : (bndE W H != 0) = true := by simpa using q
    clear q
    go_enter Try.func17, Try.ntmps17
    go_wp2_with (first | (go_at_call 27; refine (made_yes _ _ _ H6.out).mono ?_; rintro e w' ⟨rfl, rfl⟩) | (go_at_call 7; refine (tbound _ _ _).mono ?_; rintro e w' ⟨rfl, rfl⟩))
    go_ret
    refine ⟨rfl, ?_, But.refl _ _⟩
    unfold reS; rw [if_neg HE.out]; exact HT.out
theorem add_any (k : Kd) (n : Int) (w : World) (h0 : 0 ≤ k.c) (h1 : k.c ≤ 1000) (h2 : 0 ≤ k.a) (h3 : k.a ≤ 1152921504606846976) (h4 : 0 ≤ n) (h5 : n ≤ 1099511627776) :
    Calls Try.prog 29 #[.agg #[.int .i64 k.c, .int .i64 k.a, .int .i64 k.t], .int .i64 n] w fun e w' => e = .returned (.agg #[.int .i64 (k.c + 1), .int .i64 (min 1152921504606846976 (k.a + n)), .int .i64 (max k.t n)]) ∧ Below w.heap.size w w' := by
  obtain ⟨s, c, a, t⟩ := k
  dsimp only at *
  by_cases p : 1152921504606846976 ≤ a + n <;> by_cases q : n ≤ t
  · rw [Int.min_eq_left p, Int.max_eq_left q]
    go_enter Try.func29, Try.ntmps29
    go_wp2
    exact bodyPost_ret (v := .agg #[.int .i64 (c + 1), .int .i64 1152921504606846976, .int .i64 t]) (by simp [results, Try.results29, go_sem]) rfl ⟨rfl, ((Below.refl _ _).alloc (Nat.le_refl _) _).alloc (by simp) _⟩
  · rw [Int.min_eq_left p, Int.max_eq_right (by omega : t ≤ n)]
    go_enter Try.func29, Try.ntmps29
    go_wp2
    exact bodyPost_ret (v := .agg #[.int .i64 (c + 1), .int .i64 1152921504606846976, .int .i64 n]) (by simp [results, Try.results29, go_sem]) rfl ⟨rfl, ((Below.refl _ _).alloc (Nat.le_refl _) _).alloc (by simp) _⟩
  · rw [Int.min_eq_right (by omega : a + n ≤ 1152921504606846976), Int.max_eq_left q]
    go_enter Try.func29, Try.ntmps29
    go_wp2
    exact bodyPost_ret (v := .agg #[.int .i64 (c + 1), .int .i64 (a + n), .int .i64 t]) (by simp [results, Try.results29, go_sem]) rfl ⟨rfl, ((Below.refl _ _).alloc (Nat.le_refl _) _).alloc (by simp) _⟩
  · rw [Int.min_eq_right (by omega : a + n ≤ 1152921504606846976), Int.max_eq_right (by omega : t ≤ n)]
    go_enter Try.func29, Try.ntmps29
    go_wp2
    exact bodyPost_ret (v := .agg #[.int .i64 (c + 1), .int .i64 (a + n), .int .i64 n]) (by simp [results, Try.results29, go_sem]) rfl ⟨rfl, ((Below.refl _ _).alloc (Nat.le_refl _) _).alloc (by simp) _⟩
theorem rmore_any (k : Kd) (n : Int) (w : World) (h0 : 0 ≤ k.c) (h1 : k.c ≤ 1000) (h2 : 0 ≤ k.a) (h3 : k.a ≤ 1152921504606846976) (h4 : 0 ≤ n) (h5 : n ≤ 1099511627776) :
    Calls Try.prog 30 #[.agg #[.string k.s, .int .i64 k.c, .int .i64 k.a, .int .i64 k.t], .int .i64 n] w fun e w' => e = .returned (.agg #[.string k.s, .int .i64 (k.c + 1), .int .i64 (min 1152921504606846976 (k.a + n)), .int .i64 (max k.t n)]) ∧ Below w.heap.size w w' := by
  obtain ⟨s, c, a, t⟩ := k
  dsimp only at *
  by_cases p : 1152921504606846976 ≤ a + n <;> by_cases q : n ≤ t
  · rw [Int.min_eq_left p, Int.max_eq_left q]
    go_enter Try.func30, Try.ntmps30
    go_wp2
    exact bodyPost_ret (v := .agg #[.string s, .int .i64 (c + 1), .int .i64 1152921504606846976, .int .i64 t]) (by simp [results, Try.results30, go_sem]) rfl ⟨rfl, ((Below.refl _ _).alloc (Nat.le_refl _) _).alloc (by simp) _⟩
  · rw [Int.min_eq_left p, Int.max_eq_right (by omega : t ≤ n)]
    go_enter Try.func30, Try.ntmps30
    go_wp2
    exact bodyPost_ret (v := .agg #[.string s, .int .i64 (c + 1), .int .i64 1152921504606846976, .int .i64 n]) (by simp [results, Try.results30, go_sem]) rfl ⟨rfl, ((Below.refl _ _).alloc (Nat.le_refl _) _).alloc (by simp) _⟩
  · rw [Int.min_eq_right (by omega : a + n ≤ 1152921504606846976), Int.max_eq_left q]
    go_enter Try.func30, Try.ntmps30
    go_wp2
    exact bodyPost_ret (v := .agg #[.string s, .int .i64 (c + 1), .int .i64 (a + n), .int .i64 t]) (by simp [results, Try.results30, go_sem]) rfl ⟨rfl, ((Below.refl _ _).alloc (Nat.le_refl _) _).alloc (by simp) _⟩
  · rw [Int.min_eq_right (by omega : a + n ≤ 1152921504606846976), Int.max_eq_right (by omega : t ≤ n)]
    go_enter Try.func30, Try.ntmps30
    go_wp2
    exact bodyPost_ret (v := .agg #[.string s, .int .i64 (c + 1), .int .i64 (a + n), .int .i64 n]) (by simp [results, Try.results30, go_sem]) rfl ⟨rfl, ((Below.refl _ _).alloc (Nat.le_refl _) _).alloc (by simp) _⟩
end Go.Proofs.Ytcbdmaffcjdnbaa
