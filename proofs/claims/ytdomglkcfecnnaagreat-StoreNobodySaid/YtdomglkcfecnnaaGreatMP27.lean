/- Own texts, merged: N3, D6, D9. -/
import Derived.RangeFuncNested
import Derived.RangeFuncBound
import Derived.RangeFuncCalls
import Derived.RangeFuncLeaves
import Derived.RangeFuncBox
import Derived.Shelf.Abstract
import Derived.Shelf.RegionOpen
import Derived.OwnWalkIn
import Derived.TacticsInMore
import Derived.LoopNIn
import Derived.LoopIn
import Derived.Test.YtdomglkcfecnnaaGreatMP19
import Derived.Test.YtdomglkcfecnnaaGreatMP26
/- Walks: num: the iterator over a ladder's places, At. -/
namespace Go.Proofs.YtdomglkcfecnnaaGreat
open Go.RowKit Go.Shelf
attribute [local go_sem] Oper.semAt_some
/-- What a round must keep: what is older than the loop's owner, and the three boxes that the iterator reads. -/
def KeepB (n₀ b₀ : Nat) (A B : World) : Prop := Below n₀ A B ∧ ∀ j, j < 3 → B.heap[b₀ + j]? = A.heap[b₀ + j]?
theorem KeepB.refl (n₀ b₀ : Nat) (A : World) : KeepB n₀ b₀ A A := ⟨Below.refl _ _, fun _ _ => rfl⟩
theorem KeepB.trans {n₀ b₀ : Nat} {A B C : World} (h : KeepB n₀ b₀ A B) (k : KeepB n₀ b₀ B C) : KeepB n₀ b₀ A C := ⟨h.1.trans k.1, fun j hj => (k.2 j hj).trans (h.2 j hj)⟩
theorem KeepB.cell {n₀ b₀ : Nat} {A B : World} (h : KeepB n₀ b₀ A B) (j : Nat) (hj : j < 3) {v : Value} (hv : A.cell? ⟨b₀ + j, 0, none⟩ = some v) : B.cell? ⟨b₀ + j, 0, none⟩ = some v := (World.cell?_of_block (h.2 j hj)).trans hv
/-- The first k places and their values. -/
def upto (lo step : Nat) (k : Nat) : List (Nat × Nat) := (List.range k).map fun i => (i, valB lo step i)
theorem upto_succ (lo step k : Nat) : upto lo step (k + 1) = upto lo step k ++ [(k, valB lo step k)] := by simp [upto, List.range_succ]
theorem upto_length (lo step k : Nat) : (upto lo step k).length = k := by simp [upto]
theorem steps_fin {lo hi step : Nat} (h : 0 < stepsN lo hi step) : finB lo = true ∧ finB step = true ∧ finB hi = true ∧ stepsN lo hi step ≤ 10001 := by
  unfold stepsN at h ⊢
  cases hb : stepsBad lo hi step
  · simp only [stepsBad, Bool.or_eq_false_iff, Bool.not_eq_false'] at hb
    refine ⟨hb.1, hb.2.2.1, hb.2.1, ?_⟩
    simp only [Bool.false_eq_true, if_false]
    split <;> omega
  · rw [hb] at h; simp at h
set_option maxRecDepth 100000 in
set_option maxHeartbeats 2000000 in
theorem all1_in (l b₀ n₀ lo hi step : Nat) (J Jx : List (Nat × Nat) → World → Prop)
    (hY : ∀ pre x W, J pre W → pre.length < stepsN lo hi step → x = (pre.length, valB lo step pre.length) → YieldAt Fence.wide 4 Tryz.prog l #[.int .i64 ((x.1 : Nat) : Int), .float .f64 x.2] W fun e W' =>
      (e = .returned (.bool true) ∧ J (pre ++ [x]) W' ∧ KeepB n₀ b₀ W W') ∨ (e = .returned (.bool false) ∧ Jx (pre ++ [x]) W'))
    (W : World) (h0 : W.cell? ⟨b₀, 0, none⟩ = some (.float .f64 lo)) (h1 : W.cell? ⟨b₀ + 1, 0, none⟩ = some (.float .f64 hi)) (h2 : W.cell? ⟨b₀ + 2, 0, none⟩ = some (.float .f64 step)) (hJ0 : J [] W) :
    CallsIn Fence.wide 5 Tryz.prog 93 #[.func (.yield l) #[] #[], .pointer (some ⟨b₀, 0, none⟩), .pointer (some ⟨b₀ + 1, 0, none⟩), .pointer (some ⟨b₀ + 2, 0, none⟩)] W fun e W' => (∃ v, e = .returned v) ∧
      ((∃ xs, xs = upto lo step (stepsN lo hi step) ∧ J xs W') ∨ (∃ pre, (∃ k, k ≤ stepsN lo hi step ∧ 0 < k ∧ pre = upto lo step k) ∧ Jx pre W')) := by
  have SF := Lib.hid (fun h => steps_fin (lo := lo) (hi := hi) (step := step) h)
  obtain ⟨N, hN⟩ : ∃ N, stepsN lo hi step = N := ⟨_, rfl⟩
  rw [hN] at hY SF ⊢
  have HY := Lib.hid hY
  have HN := Lib.hid hN
  have hle : N ≤ 10001 := by
    rcases Nat.eq_zero_or_pos N with h | h
    · omega
    · exact (SF.out h).2.2.2
  clear hN hY
  refine callsIn_of_wp Tryz.func93 rfl trivial ?_ rfl
  simp only [Tryz.ntmps93, List.size_toArray, List.length_cons, List.length_nil, Nat.reduceAdd, Nat.reduceSub, Array.replicate_succ, Array.replicate_zero, List.push_toArray, List.append_toArray, List.nil_append, List.cons_append]
  gi_wp2_with (refine ⟨trivial, ?_⟩; gi_at_call 73; refine (callsIn_wide.2 (tsteps _ _ _ _)).mono ?_; rintro e w' ⟨rfl, rfl⟩; rw [HN.out])
  gi_loopw [7] (fun i wr => ∃ k : Nat, k ≤ N ∧ i = .int .i64 k ∧ J (upto lo step k) wr ∧ KeepB n₀ b₀ W wr) (fun i _ => N - (intOf i).toNat)
  case atStart => exact ⟨0, Nat.zero_le _, rfl, hJ0, KeepB.refl _ _ _⟩
  case round =>
    obtain ⟨k, hk, rfl, hJs, hkp⟩ := hrel
    have c0 := hkp.cell 0 (by omega) h0
    have c1 := hkp.cell 1 (by omega) h1
    have c2 := hkp.cell 2 (by omega) h2
    rw [Nat.add_zero] at c0
    by_cases hlt : k < N
    · obtain ⟨fl, fs, _, _⟩ := SF.out (by omega)
      have FL := Lib.hid fl
      have FS := Lib.hid fs
      obtain ⟨fn, tmps, assign, body, hy, hR⟩ := HY.out _ (k, valB lo step k) wr hJs (by rw [upto_length]; exact hlt) (by rw [upto_length])
      dsimp only at hy
      have HR := Lib.hid hR
      clear fl fs hR
      gi_wp2_with (refine ⟨trivial, ?_⟩; gi_at_call 90; refine (callsIn_wide.2 (tvalue lo step k FL.out FS.out (by omega) _)).mono ?_; rintro e w' ⟨rfl, rfl⟩)
      refine HR.out.mono ?_
      rintro e W3 (⟨rfl, hJ3, hk3⟩ | ⟨rfl, hJx3⟩)
      · gi_wp2
        go_roundw
        case rel => exact ⟨k + 1, by omega, by go_num, by rw [upto_succ]; exact hJ3, hkp.trans hk3⟩
        case measure => simp [intOf]; omega
      · gi_wp2
        refine bodyPost_ret (results_none rfl _ _ _) rfl ?_
        exact ⟨⟨_, rfl⟩, .inr ⟨_, ⟨k + 1, by omega, by omega, (upto_succ _ _ _).symm⟩, hJx3⟩⟩
    · obtain rfl : k = N := by omega
      gi_wp2
      go_end0
      exact ⟨⟨_, rfl⟩, .inl ⟨_, rfl, hJs⟩⟩
/-- Three boxes of one cell each, one behind the other. -/
def ThreeBoxes (W : World) (b₀ lo hi step : Nat) : Prop := W.cell? ⟨b₀, 0, none⟩ = some (.float .f64 lo) ∧ W.cell? ⟨b₀ + 1, 0, none⟩ = some (.float .f64 hi) ∧ W.cell? ⟨b₀ + 2, 0, none⟩ = some (.float .f64 step)
def place (lo step : Nat) {N : Nat} (x : Fin N) : Nat × Nat := (x.1, valB lo step x.1)
theorem all_stops (n₀ b₀ lo hi step : Nat) (w : World) (hb : b₀ + 3 ≤ w.heap.size) (hc : ThreeBoxes w b₀ lo hi step) :
    SeqStopsK Fence.wide 5 Tryz.prog 93 #[.pointer (some ⟨b₀, 0, none⟩), .pointer (some ⟨b₀ + 1, 0, none⟩), .pointer (some ⟨b₀ + 2, 0, none⟩)] (fun x : Fin (stepsN lo hi step) => #[Value.int .i64 ((x.1 : Nat) : Int), Value.float .f64 (valB lo step x.1)]) (KeepB n₀ b₀)
      (fun xs => xs.map (place lo step) = upto lo step (stepsN lo hi step)) (fun pre => ∃ k, k ≤ stepsN lo hi step ∧ 0 < k ∧ pre.map (place lo step) = upto lo step k) (stepsN lo hi step) w := fun l J Jx W hW _ _ hY h0 => by
  refine (all1_in l b₀ n₀ lo hi step (fun q W => ∃ fs : List (Fin (stepsN lo hi step)), q = fs.map (place lo step) ∧ J fs W) (fun q W => ∃ fs : List (Fin (stepsN lo hi step)), q = fs.map (place lo step) ∧ Jx fs W) ?_ W
    ((hW.cell (p := ⟨b₀, 0, none⟩) (by show b₀ < _; omega)).trans hc.1) ((hW.cell (p := ⟨b₀ + 1, 0, none⟩) (by show b₀ + 1 < _; omega)).trans hc.2.1) ((hW.cell (p := ⟨b₀ + 2, 0, none⟩) (by show b₀ + 2 < _; omega)).trans hc.2.2) ⟨[], rfl, h0⟩).mono ?_
  · rintro pre x W ⟨fs, rfl, hJ⟩ hlt rfl
    simp only [List.length_map] at hlt ⊢
    refine (hY fs ⟨fs.length, hlt⟩ W hJ hlt).mono ?_
    rintro e W' (⟨he, h1, h2⟩ | ⟨he, h1⟩)
    · exact .inl ⟨he, ⟨_, by simp [place], h1⟩, h2⟩
    · exact .inr ⟨he, _, by simp [place], h1⟩
  · rintro e W' ⟨he, ⟨xs, hx, fs, hf, hJ⟩ | ⟨pre, ⟨k, h1, h2, h3⟩, fs, hf, hJ⟩⟩
    · exact ⟨he, .inl ⟨fs, hf.symm.trans hx, hJ⟩⟩
    · exact ⟨he, .inr ⟨fs, ⟨k, h1, h2, hf.symm.trans h3⟩, hJ⟩⟩
theorem tall (lo hi step : Nat) (w : World) : Calls Tryz.prog 78 #[.float .f64 lo, .float .f64 hi, .float .f64 step] w fun e w' => e = .returned (.func (.func 93) #[] #[.pointer (some ⟨w.heap.size, 0, none⟩), .pointer (some ⟨w.heap.size + 1, 0, none⟩), .pointer (some ⟨w.heap.size + 1 + 1, 0, none⟩)]) ∧
    w' = ((w.alloc (.cells #[.float .f64 lo] 60)).alloc (.cells #[.float .f64 hi] 60)).alloc (.cells #[.float .f64 step] 60) := by
  go_enter Tryz.func78, Tryz.ntmps78
  go_wp2
  go_ret
  exact ⟨rfl, rfl⟩
theorem keepB_b {n₀ b₀ : Nat} {w : World} (hn : n₀ ≤ w.heap.size) (hb : b₀ + 3 ≤ w.heap.size) : ∀ (W : World) (l : Nat) (o o' : Obj), w.heap.size ≤ l → W.heap[l]? = some o → o.isCells = false → o.isWalk = false → KeepB n₀ b₀ W (W.putObj l o') := fun W l o o' hl ho h1 h2 =>
  ⟨belowK_b hn W l o o' hl ho h1 h2, fun j hj => World.putObj_heap_other (by omega)⟩
theorem steps_lt (lo hi step : Nat) {i : Nat} (h : i < stepsN lo hi step) : isNan (valB lo step i) = false := by
  obtain ⟨h1, h2, _, h4⟩ := steps_fin (by omega : 0 < stepsN lo hi step)
  exact (valB_eq lo step i h1 h2 (by omega)).2.1
def atX (lo hi step : Nat) (k : Int) : Nat := if stepsE lo hi step = 0 then (if k < 0 ∨ (stepsN lo hi step : Int) ≤ k then 0 else valB lo step k.toNat) else 0
def atE (lo hi step : Nat) (k : Int) : Int := if stepsE lo hi step = 0 then (if k < 0 ∨ (stepsN lo hi step : Int) ≤ k then 5 else 0) else stepsE lo hi step
end Go.Proofs.YtdomglkcfecnnaaGreat
/- Fields in memory; walks: desc: Slides, At. -/
namespace Go.Proofs.YtdomglkcfecnnaaGreat
open Go.RowKit Go.Shelf
/-- A field's letters. -/
structure FL where
  k : Int
  nm : ByteArray
  lb : ByteArray
  xo : Option Addr
  no : Nat
  co : Nat
  mn : Int
  mx : Int
  lo : Nat
  hi : Nat
  st : Nat
  ds : ByteArray
  dn : Int
  db : Bool
  xl : Option Addr
  nl : Nat
  cl : Nat
  df : Nat
  sh : ByteArray
  ck : ByteArray
def FL.a (F : FL) : Array Value := #[.int .i64 F.k, .string F.nm, .string F.lb, .slice F.xo F.no F.co, .int .i64 F.mn, .int .i64 F.mx, .float .f64 F.lo, .float .f64 F.hi, .float .f64 F.st, .string F.ds, .int .i64 F.dn, .bool F.db, .slice F.xl F.nl F.cl, .float .f64 F.df, .string F.sh, .string F.ck]
def FL.v (F : FL) : Value := .agg F.a
/-- A variable of a field. -/
def FLB (W : World) (b : Nat) (F : FL) : Prop := W.heap[b]? = some (.cells F.a 66 (0, 0))
theorem FLB.lt {W : World} {b : Nat} {F : FL} (h : FLB W b F) : b < W.heap.size := (Array.getElem?_eq_some_iff.1 h).1
theorem FLB.below {W W' : World} {b : Nat} {F : FL} (h : FLB W b F) (hb : Below W.heap.size W W') : FLB W' b F := (hb.block b h.lt).trans h
theorem FLB.cells {W : World} {b : Nat} {F : FL} (h : FLB W b F) :
    W.cell? ⟨b, 0, none⟩ = some (.int .i64 F.k) ∧ W.cell? ⟨b, 1, none⟩ = some (.string F.nm) ∧ W.cell? ⟨b, 2, none⟩ = some (.string F.lb) ∧ W.cell? ⟨b, 3, none⟩ = some (.slice F.xo F.no F.co) ∧
    W.cell? ⟨b, 4, none⟩ = some (.int .i64 F.mn) ∧ W.cell? ⟨b, 5, none⟩ = some (.int .i64 F.mx) ∧ W.cell? ⟨b, 6, none⟩ = some (.float .f64 F.lo) ∧ W.cell? ⟨b, 7, none⟩ = some (.float .f64 F.hi) ∧ W.cell? ⟨b, 8, none⟩ = some (.float .f64 F.st) ∧
    W.cell? ⟨b, 9, none⟩ = some (.string F.ds) ∧ W.cell? ⟨b, 10, none⟩ = some (.int .i64 F.dn) ∧ W.cell? ⟨b, 11, none⟩ = some (.bool F.db) ∧ W.cell? ⟨b, 12, none⟩ = some (.slice F.xl F.nl F.cl) ∧ W.cell? ⟨b, 13, none⟩ = some (.float .f64 F.df) ∧
    W.cell? ⟨b, 14, none⟩ = some (.string F.sh) ∧ W.cell? ⟨b, 15, none⟩ = some (.string F.ck) := by
  unfold FLB FL.a at h
  refine ⟨?_, ?_, ?_, ?_, ?_, ?_, ?_, ?_, ?_, ?_, ?_, ?_, ?_, ?_, ?_, ?_⟩ <;> simp [World.cell?, h]
theorem FLB.new (W : World) (F : FL) : FLB (W.alloc (.cells F.a 66)) W.heap.size F := heap_alloc_new _ _
/-- A field's letters, by what it is. -/
def Fld.fl (f : Fld) (xo : Option Addr) (co : Nat) (xl : Option Addr) (cl : Nat) : FL := ⟨f.k, tx f.nm, tx f.lb, xo, f.op.length, co, f.mn, f.mx, f.lo, f.hi, f.st, tx f.d.s, f.d.n, f.d.b, xl, f.d.l.length, cl, f.d.f, tx f.sh, tx f.ck⟩
def FL.sld (F : FL) : Nat := if F.k = 9 then stepsN F.lo F.hi F.st else 0
theorem sld_fl (f : Fld) (xo : Option Addr) (co : Nat) (xl : Option Addr) (cl : Nat) : (f.fl xo co xl cl).sld = sldN f := rfl
theorem stepsN_bad {lo hi st : Nat} (h : stepsE lo hi st ≠ 0) : stepsN lo hi st = 0 := by
  unfold stepsE at h
  unfold stepsN
  split at h
  · rename_i h1; rw [if_pos h1]
  · rename_i h1
    rw [if_neg h1]
    split at h
    · rename_i h2; rw [if_pos h2]
    · exact absurd rfl h
set_option maxRecDepth 100000 in
set_option maxHeartbeats 4000000 in
theorem dSlides (F : FL) (w : World) : Calls Tryz.prog 60 #[F.v] w fun e w' => e = .returned (.int .i64 (F.sld : Nat)) ∧ Below w.heap.size w w' := by
  obtain ⟨k, nm, lb, xo, no, co, mn, mx, lo, hi, st, ds, dn, db, xl, nl, cl, df, sh, ck⟩ := F
  obtain ⟨R, hR⟩ : ∃ R, R = FL.sld ⟨k, nm, lb, xo, no, co, mn, mx, lo, hi, st, ds, dn, db, xl, nl, cl, df, sh, ck⟩ := ⟨_, rfl⟩
  rw [← hR]
  have HAL := Lib.hid (fun o => (Below.refl w.heap.size w).alloc (Nat.le_refl _) o)
  have HST := Lib.hid (fun W => tsteps lo hi st W)
  have HSB : Hid (stepsE lo hi st ≠ 0 → stepsN lo hi st = 0) := Lib.hid stepsN_bad
  unfold FL.sld at hR
  unfold FL.v FL.a
  simp only at hR ⊢
  by_cases h9 : k = 9
  · rw [if_pos h9] at hR
    obtain ⟨E, hE⟩ : ∃ E, E = stepsE lo hi st := ⟨_, rfl⟩
    obtain ⟨N, hN⟩ : ∃ N, N = stepsN lo hi st := ⟨_, rfl⟩
    rw [← hE, ← hN] at HST HSB
    rw [← hN] at hR
    clear hE hN
    by_cases he : E = 0
    · have HR := Lib.hid hR
      subst h9
      subst he
      clear hR HSB
      go_enter Tryz.func60, Tryz.ntmps60
      go_wp2_with (first | (go_at_call 73; refine (HST.out _).mono ?_; rintro e w' ⟨rfl, rfl⟩))
      go_ret
      exact ⟨by rw [HR.out]; rfl, HAL.out _⟩
    · have HR : Hid (R = 0) := Lib.hid (by rw [hR]; exact HSB.out he)
      have ht : (E != 0) = true := by simpa using he
      subst h9
      clear hR HSB he
      go_enter Tryz.func60, Tryz.ntmps60
      go_wp2_with (first | (go_at_call 73; refine (HST.out _).mono ?_; rintro e w' ⟨rfl, rfl⟩))
      go_ret
      exact ⟨by rw [HR.out]; rfl, HAL.out _⟩
  · have HR : Hid (R = 0) := Lib.hid (by rw [hR, if_neg h9])
    have ht : (k != 9) = true := by simpa using h9
    clear hR HSB h9
    go_enter Tryz.func60, Tryz.ntmps60
    go_wp2
    go_ret
    exact ⟨by rw [HR.out]; rfl, HAL.out _⟩
/-- A slide's value of a place. -/
def atP (F : FL) (k : Int) : Nat × Bool := if F.k = 9 ∧ 0 ≤ k ∧ k < (F.sld : Nat) then (valB F.lo F.st k.toNat, true) else (0, false)
theorem at_yes9 {lo hi st : Nat} {k : Int} (h : atE lo hi st k = 0) : 0 ≤ k ∧ k < (stepsN lo hi st : Nat) ∧ atX lo hi st k = valB lo st k.toNat := by
  unfold atE at h
  unfold atX
  split at h
  · rename_i h1
    rw [if_pos h1]
    split at h
    · cases h
    · rename_i h2
      rw [if_neg h2]
      exact ⟨by omega, by omega, rfl⟩
  · rename_i h1; exact absurd h h1
theorem at_no9 {lo hi st : Nat} {k : Int} (h : atE lo hi st k ≠ 0) : ¬ (0 ≤ k ∧ k < (stepsN lo hi st : Nat)) := by
  unfold atE at h
  split at h
  · split at h
    · omega
    · exact absurd rfl h
  · rename_i h1
    rw [stepsN_bad h1]
    omega
end Go.Proofs.YtdomglkcfecnnaaGreat
/- Walks: desc: set, mine, rising. -/
namespace Go.Proofs.YtdomglkcfecnnaaGreat
open Go.RowKit Go.Shelf
theorem zf_test (x : Nat) : (FloatKind.f64.format.order x 0 != some .eq) = !(zF x) := by
  unfold zF
  cases hn : isNan x
  · have h0 : isNan 0 = false := by decide
    have hz : sv 0 = 0 := by decide
    rcases ord_cases hn h0 with ⟨k, r⟩ | ⟨k, r⟩ | ⟨k, r⟩
    all_goals
      rw [r]
      rw [hz] at k
      have hv : rung x = 0 ↔ sv x = 0 := by
        constructor
        · intro e; unfold sv; rw [e, valN_zero]; split <;> rfl
        · intro e
          have : valN (rung x) = 0 := by unfold sv at e; split at e <;> omega
          exact valN_inj (this.trans valN_zero.symm)
    · have : ¬ rung x = 0 := fun e => by have := hv.1 e; omega
      simp [this]
    · have : rung x = 0 := hv.2 k
      simp [this]
    · have : ¬ rung x = 0 := fun e => by have := hv.1 e; omega
      simp [this]
  · have hr : ¬ rung x = 0 := fun e => by unfold isNan at hn; rw [e] at hn; simp at hn
    rw [show FloatKind.f64.format.order x 0 = none from order_nan x 0 (.inl hn)]
    simp [hr]
/-- A value's letters. -/
def dvlV (s : ByteArray) (n : Int) (b : Bool) (x : Option Addr) (nl c : Nat) (f : Nat) : Value := .agg #[.string s, .int .i64 n, .bool b, .slice x nl c, .float .f64 f]
def ptV (a b c d e : Bool) : Value := .agg #[.bool a, .bool b, .bool c, .bool d, .bool e]
theorem parts_end {fn : Func} {p : Tmp} (h : fn.results = #[.cell p 144]) (tmps : Array Value) (w : World) (g : Nat) (v0 v1 v2 v3 v4 : Value) (hp : tmps.getD p undef = .pointer (some ⟨g, 0, none⟩))
    (hg : w.heap[g]? = some (.cells #[v0, v1, v2, v3, v4] 144 (0, 0))) : (results fn tmps).run Tryz.prog w = .ok (.agg #[v0, v1, v2, v3, v4]) w :=
  results_cell h tmps w g 144 _ _ _ hp hg Tryz.underlying144 rfl (by kernel_rfl)
theorem heap_at {W : World} {b c : Nat} {o : Obj} (h : W.heap[b]? = some o) (e : b = c) : W.heap[c]? = some o := e ▸ h
/-- What a kind has. -/
def mineV (k : Int) : Value := ptV (decide (k = 1 ∨ k = 2 ∨ k = 4)) (decide (k = 3 ∨ k = 6 ∨ k = 8)) (decide (k = 5)) (decide (k = 7)) (decide (k = 9))
theorem kind_all (k : Int) : k = 1 ∨ k = 2 ∨ k = 3 ∨ k = 4 ∨ k = 5 ∨ k = 6 ∨ k = 7 ∨ k = 8 ∨ k = 9 ∨ (k ≠ 1 ∧ k ≠ 2 ∧ k ≠ 3 ∧ k ≠ 4 ∧ k ≠ 5 ∧ k ≠ 6 ∧ k ≠ 7 ∧ k ≠ 8 ∧ k ≠ 9) := by omega
set_option maxHeartbeats 2000000 in
theorem dmine (k : Int) (w : World) : Calls Tryz.prog 75 #[.int .i64 k] w fun e w' => e = .returned (mineV k) ∧ Below w.heap.size w w' := by
  have HAL := Lib.hid (fun o => (Below.refl w.heap.size w).alloc (Nat.le_refl _) o)
  obtain ⟨m, hm⟩ : ∃ m, m = mineV k := ⟨_, rfl⟩
  rw [← hm]
  have HM := Lib.hid hm
  clear hm
  rcases kind_all k with rfl | rfl | rfl | rfl | rfl | rfl | rfl | rfl | rfl | hk
  case inr.inr.inr.inr.inr.inr.inr.inr.inr =>
    have HK := Lib.hid hk
    obtain ⟨b1, b2, b3, b4, b5, b6, b7, b8, b9⟩ := no_kind hk
    clear hk
    go_enter Tryz.func75, Tryz.ntmps75
    go_wp2
    refine bodyPost_ret (parts_end rfl _ _ w.heap.size _ _ _ _ _ rfl (heap_alloc_new _ _)) rfl ⟨by rw [HM.out]; obtain ⟨h1, h2, h3, h4, h5, h6, h7, h8, h9⟩ := HK.out; unfold mineV; simp [h1, h2, h3, h4, h5, h6, h7, h8, h9]; rfl, HAL.out _⟩
  all_goals
    go_enter Tryz.func75, Tryz.ntmps75
    go_wp2
    refine bodyPost_ret (parts_end rfl _ _ w.heap.size _ _ _ _ _ rfl (heap_alloc_new _ _)) rfl ⟨by rw [HM.out]; rfl, HAL.out _⟩
set_option maxHeartbeats 2000000 in
theorem dset (s : Bs) (n : Int) (b : Bool) (x : Option Addr) (nl c : Nat) (f : Nat) (w : World) : Calls Tryz.prog 74 #[dvlV (tx s) n b x nl c f] w fun e w' => e = .returned (ptV (decide (s ≠ [])) (decide (n ≠ 0)) b (decide (0 < nl)) (!zF f)) ∧ Below w.heap.size w w' := by
  have HAL := Lib.hid (fun o1 o2 => ((Below.refl w.heap.size w).alloc (Nat.le_refl _) o1).alloc (by simp) o2)
  unfold dvlV
  have HZ := zf_test f
  go_enter Tryz.func74, Tryz.ntmps74
  go_wp2
  refine bodyPost_ret (parts_end rfl _ _ (w.heap.size + 1) _ _ _ _ _ rfl (heap_at (heap_alloc_new _ _) (by simp))) rfl ⟨?_, HAL.out _ _⟩
  unfold ptV
  rw [show decide (s ≠ []) = !(tx s).toList.isEmpty from by rw [tx_toList, Bool.eq_iff_iff]; simp, show decide (n ≠ 0) = (n != 0) from by rw [Bool.eq_iff_iff]; simp]
/-- Numbers in memory. -/
def IntV (W : World) (v : Value) (L : List Int) : Prop := ∃ x c, v = .slice x L.length c ∧ L.length ≤ c ∧ (L ≠ [] → ∃ g o, x = some ⟨g, o, none⟩ ∧ g < W.heap.size ∧ ∀ i, i < L.length → W.cell? ⟨g, o + i, none⟩ = some (.int .i64 (L.getD i 0)))
theorem IntV.below {W W' : World} {v : Value} {L : List Int} (h : IntV W v L) (hB : Below W.heap.size W W') : IntV W' v L := by
  obtain ⟨x, c, rfl, h2, h3⟩ := h
  refine ⟨x, c, rfl, h2, fun hn => ?_⟩
  obtain ⟨g, o, rfl, h4, h5⟩ := h3 hn
  exact ⟨g, o, rfl, Nat.lt_of_lt_of_le h4 hB.size, fun i hi => (hB.cell (p := ⟨g, o + i, none⟩) h4).trans (h5 i hi)⟩
theorem IntV.nil (W : World) : IntV W (.slice none 0 0) [] := ⟨none, 0, rfl, Nat.le_refl _, fun h => absurd rfl h⟩
theorem IntV.at_ {W : World} {x : Option Addr} {c : Nat} {L : List Int} (h : IntV W (.slice x L.length c) L) (hn : L ≠ []) : ∃ g o, x = some ⟨g, o, none⟩ ∧ g < W.heap.size ∧ ∀ i, i < L.length → W.cell? ⟨g, o + i, none⟩ = some (.int .i64 (L.getD i 0)) := by
  obtain ⟨x', c', he, _, h3⟩ := h
  obtain ⟨rfl, rfl⟩ : x = x' ∧ c = c' := by simpa using he
  exact h3 hn
theorem risP_no {L : List Int} {m : Int} {i : Nat} (hi : i < L.length) (h : risA L m i = false) : risP L m = false := by
  unfold risP
  rw [List.all_eq_false]
  exact ⟨i, List.mem_range.2 hi, by rw [h]; simp⟩
theorem risP_yes {L : List Int} {m : Int} (h : ∀ i, i < L.length → risA L m i = true) : risP L m = true := by
  unfold risP
  rw [List.all_eq_true]
  exact fun i hi => h i (List.mem_range.1 hi)
set_option maxHeartbeats 4000000 in
theorem drising (L : List Int) (m : Int) (x : Option Addr) (c : Nat) (hL : L.length ≤ 1000000) (w : World) (h : IntV w (.slice x L.length c) L) :
    Calls Tryz.prog 63 #[.slice x L.length c, .int .i64 m] w fun e w' => e = .returned (.bool (risP L m)) ∧ Below w.heap.size w w' := by
  have HV := Lib.hid (fun hn => IntV.at_ h hn)
  have HNO := Lib.hid (fun i hi h => risP_no (L := L) (m := m) (i := i) hi h)
  have HYE := Lib.hid (fun h => risP_yes (L := L) (m := m) h)
  obtain ⟨R, hR⟩ : ∃ R, R = risP L m := ⟨_, rfl⟩
  rw [← hR] at HNO HYE ⊢
  obtain ⟨n, hn⟩ : ∃ n, n = L.length := ⟨_, rfl⟩
  rw [← hn] at HV HNO HYE hL ⊢
  have HN := Lib.hid hn
  clear hn hR h
  go_enter Tryz.func63, Tryz.ntmps63
  go_wp2
  go_loopw [9] (fun i wr => ∃ k : Nat, i = .int .i64 k ∧ k ≤ n ∧ Hid ((∀ i, i < k → risA L m i = true) ∧ ∃ q, wr = w.drewN q)) (fun i _ => n - (intOf i).toNat)
  case atStart => exact ⟨0, rfl, Nat.zero_le _, Lib.hid ⟨fun i hi => absurd hi (by omega), 0, rfl⟩⟩
  case round =>
    obtain ⟨k, rfl, hk, HI⟩ := hrel
    by_cases hlt : k < n
    · obtain ⟨g, o, rfl, HG⟩ : ∃ g o, x = some ⟨g, o, none⟩ ∧ Hid (∀ i, i < n → wr.cell? ⟨g, o + i, none⟩ = some (.int .i64 (L.getD i 0))) := by
        obtain ⟨g, o, h1, _, h2⟩ := HV.out (fun e => by rw [HN.out, e] at hlt; simp at hlt)
        obtain ⟨q, hq⟩ := HI.out.2
        exact ⟨g, o, h1, Lib.hid (fun i hi => by rw [hq]; exact h2 i hi)⟩
      have ck := HG.out k hlt
      have HBK := Lib.hid (HNO.out k hlt)
      have HAK := Lib.hid HI.out.1
      have HQ := Lib.hid (show ∀ d, Below w.heap.size w (wr.drewN d) from fun d => by obtain ⟨q, hq⟩ := HI.out.2; rw [hq]; exact ⟨rfl, rfl, rfl, Nat.le_refl _, fun _ _ => rfl⟩)
      have HQ2 := Lib.hid (show ∃ q, wr = w.drewN q from HI.out.2)
      obtain ⟨a, ha⟩ : ∃ a, a = L.getD k 0 := ⟨_, rfl⟩
      have i1 : (0 : Int) ≤ (k : Int) := by omega
      have i2 : (k : Int) < (n : Int) := by omega
      have HRI : Hid (risA L m k = (decide (0 ≤ a ∧ a < m) && (decide (k = 0) || decide (L.getD (k - 1) 0 < a)))) := Lib.hid (by unfold risA; rw [← ha])
      rw [← ha] at ck
      clear ha HI HV HNO HYE
      by_cases h1 : a < 0
      · have t1 : decide (a < 0) = true := by simp [h1]
        have HR := Lib.hid (HBK.out (by rw [HRI.out, show decide (0 ≤ a ∧ a < m) = false from by rw [decide_eq_false_iff_not]; omega]; rfl))
        clear h1 HBK HRI
        go_wp2
        go_ret
        exact ⟨ret_bool HR.out.symm, HQ.out 0⟩
      have t1 : decide (a < 0) = false := by simp [h1]
      by_cases h2 : m ≤ a
      · have t2 : decide (m ≤ a) = true := by simp [h2]
        have HR := Lib.hid (HBK.out (by rw [HRI.out, show decide (0 ≤ a ∧ a < m) = false from by rw [decide_eq_false_iff_not]; omega]; rfl))
        clear h1 h2 HBK HRI
        go_wp2
        go_ret
        exact ⟨ret_bool HR.out.symm, HQ.out 0⟩
      have t2 : decide (m ≤ a) = false := by simp [h2]
      rw [show decide (0 ≤ a ∧ a < m) = true from by rw [decide_eq_true_iff]; omega] at HRI
      by_cases h0 : k = 0
      · subst h0
        rw [Nat.add_zero] at ck
        have HNX : Hid (∀ i, i < 0 + 1 → risA L m i = true) := Lib.hid (fun i hi => by obtain rfl : i = 0 := (by omega); rw [HRI.out]; rfl)
        clear h1 h2 HBK HRI
        go_wp2
        go_roundw
        case rel => exact ⟨1, by go_num, by omega, Lib.hid ⟨HNX.out, HQ2.out⟩⟩
        case measure => simp [intOf]; omega
      have t0 : decide (0 < (k : Int)) = true := by simp; omega
      have cp := HG.out (k - 1) (by omega)
      obtain ⟨b, hb⟩ : ∃ b, b = L.getD (k - 1) 0 := ⟨_, rfl⟩
      rw [← hb] at HRI cp
      have i3 : (0 : Int) ≤ (k : Int) - 1 := by omega
      have i4 : (k : Int) - 1 < (n : Int) := by omega
      clear hb h1 h2
      by_cases h5 : a ≤ b
      · have t5 : decide (a ≤ b) = true := by simp [h5]
        have HR := Lib.hid (HBK.out (by rw [HRI.out, decide_eq_false h0, show decide (b < a) = false from by rw [decide_eq_false_iff_not]; omega]; rfl))
        clear h5 HBK HRI
        go_wp2
        go_ret
        exact ⟨ret_bool HR.out.symm, HQ.out 0⟩
      · have t5 : decide (a ≤ b) = false := by simp [h5]
        have HNX : Hid (∀ i, i < k + 1 → risA L m i = true) := Lib.hid (fun i hi => by
          rcases Nat.lt_or_ge i k with z | z
          · exact HAK.out i z
          · obtain rfl : i = k := by omega
            rw [HRI.out, show decide (b < a) = true from by rw [decide_eq_true_iff]; omega]; simp)
        clear h5 HBK HRI
        go_wp2
        go_roundw
        case rel => exact ⟨k + 1, by go_num, by omega, Lib.hid ⟨HNX.out, HQ2.out⟩⟩
        case measure => simp [intOf]; omega
    · obtain rfl : k = n := by omega
      have HR := Lib.hid (HYE.out (fun i hi => HI.out.1 i hi))
      have HQ := Lib.hid (show Below w.heap.size w wr from by obtain ⟨q, hq⟩ := HI.out.2; rw [hq]; exact ⟨rfl, rfl, rfl, Nat.le_refl _, fun _ _ => rfl⟩)
      clear HI HV HNO HYE
      go_wp2
      go_ret
      exact ⟨ret_bool HR.out.symm, HQ.out⟩
end Go.Proofs.YtdomglkcfecnnaaGreat
