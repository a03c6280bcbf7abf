/- Walks: the methods of a tally that nobody made. -/
import Derived.Test.YtcbdmaffcjdnbaaW1
import Derived.RangeFuncNested
import Derived.RangeFuncBound
import Derived.RangeFuncCalls
import Derived.RangeFuncLeaves
import Derived.Shelf.Abstract
import Derived.Shelf.RegionOpen
import Derived.OwnWalkIn
import Derived.TacticsInMore
import Derived.LoopNIn
import Derived.LoopIn
import Derived.WalkSpells
namespace Go.Proofs.Ytcbdmaffcjdnbaa
open Go.RowKit Go.Shelf
attribute [local go_sem] Oper.semAt_some
/-- What a pointer leads to that is no tally of New's: nothing, or a map that is none. -/
def Nobody (w : World) (p : Option Addr) : Prop := p = none ∨ ∃ b, p = some ⟨b, 0, none⟩ ∧ b < w.heap.size ∧ w.cell? ⟨b, 6, none⟩ = some (.map none)
theorem Nobody.mono {w w' : World} {p : Option Addr} (h : Nobody w p) (hw : Below w.heap.size w w') : Nobody w' p := by
  rcases h with rfl | ⟨b, rfl, hb, hc⟩
  · exact .inl rfl
  · exact .inr ⟨b, rfl, by have := hw.size; omega, (hw.cell (p := ⟨b, 6, none⟩) hb).trans hc⟩
theorem made_no (w : World) (p : Option Addr) (h : Nobody w p) : Calls Try.prog 27 #[.pointer p] w fun e w' => e = .returned (.bool false) ∧ w = w' := by
  rcases h with rfl | ⟨b, rfl, hb, hc⟩
  · go_enter Try.func27, Try.ntmps27; go_wp2; go_ret; exact ⟨rfl, rfl⟩
  · have hm := fun w' : World => run_neq_map_nil (P := Try.prog) w' 40 9 38 none Try.underlying40
    go_enter Try.func27, Try.ntmps27; go_wp2; go_ret; exact ⟨rfl, rfl⟩
theorem sum_no (w : World) (p : Option Addr) (s : ByteArray) (h : Nobody w p) : Calls Try.prog 14 #[.pointer p, .string s] w fun e w' => e = .returned (.tuple #[.int .i64 0, .int .i64 0, .int .i64 0]) ∧ w = w' := by
  have H := Lib.hid h
  clear h
  go_enter Try.func14, Try.ntmps14
  go_wp2_with (go_at_call 27; refine (made_no _ _ H.out).mono ?_; rintro e w' ⟨rfl, rfl⟩)
  go_ret3
  exact ⟨rfl, rfl⟩
theorem note_no (w : World) (p : Option Addr) (s : ByteArray) (n : Int) (h : Nobody w p) : Calls Try.prog 16 #[.pointer p, .string s, .int .i64 n] w fun e w' => e = .returned (.int .i64 4) ∧ w = w' := by
  have H := Lib.hid h
  clear h
  go_enter Try.func16, Try.ntmps16
  go_wp2_with (go_at_call 27; refine (made_no _ _ H.out).mono ?_; rintro e w' ⟨rfl, rfl⟩)
  go_ret
  exact ⟨rfl, rfl⟩
theorem resize_no (w : World) (p : Option Addr) (n m : Int) (h : Nobody w p) : Calls Try.prog 17 #[.pointer p, .int .i64 n, .int .i64 m] w fun e w' => e = .returned (.int .i64 4) ∧ w = w' := by
  have H := Lib.hid h
  clear h
  go_enter Try.func17, Try.ntmps17
  go_wp2_with (go_at_call 27; refine (made_no _ _ H.out).mono ?_; rintro e w' ⟨rfl, rfl⟩)
  go_ret
  exact ⟨rfl, rfl⟩
theorem over_no (w : World) (p : Option Addr) (h : Nobody w p) : Calls Try.prog 18 #[.pointer p] w fun e w' => e = .returned (.int .i64 0) ∧ w = w' := by
  have H := Lib.hid h
  clear h
  go_enter Try.func18, Try.ntmps18
  go_wp2_with (go_at_call 27; refine (made_no _ _ H.out).mono ?_; rintro e w' ⟨rfl, rfl⟩)
  go_ret
  exact ⟨rfl, rfl⟩
theorem total_no (w : World) (p : Option Addr) (h : Nobody w p) : Calls Try.prog 15 #[.pointer p] w fun e w' => e = .returned (.tuple #[.int .i64 0, .int .i64 0, .int .i64 0]) ∧ Below w.heap.size w w' := by
  have H := Lib.hid (h.mono ((Below.refl _ _).alloc (Nat.le_refl _) (.cells #[.int .i64 0] 3)))
  clear h
  go_enter Try.func15, Try.ntmps15
  go_wp2_with (go_at_call 27; refine (made_no _ _ H.out).mono ?_; rintro e w' ⟨rfl, rfl⟩)
  exact bodyPost_ret (v := .tuple #[.int .i64 0, .int .i64 0, .int .i64 0]) (by simp [results, Try.results15, go_sem]) rfl ⟨rfl, (Below.refl _ _).alloc (Nat.le_refl _) _⟩
theorem tkinds (w : World) (p : Option Addr) : Calls Try.prog 28 #[.pointer p] w fun e w' => e = .returned (.func (.func 31) #[] #[.pointer (some ⟨w.heap.size, 0, none⟩)]) ∧ w' = w.alloc (.cells #[.pointer p] 36) := by
  go_enter Try.func28, Try.ntmps28
  go_wp2
  go_ret
  exact ⟨rfl, rfl⟩
/-- The iterator of a tally that nobody made yields nothing. -/
theorem kinds1_no (l Bn : Nat) (p : Option Addr) (J : List (ByteArray × Int) → World → Prop) (W : World) (hB : W.cell? ⟨Bn, 0, none⟩ = some (.pointer p)) (hN : Nobody W p) (h0 : J [] W) :
    CallsIn Fence.wide 5 Try.prog 31 #[.func (.yield l) #[] #[], .pointer (some ⟨Bn, 0, none⟩)] W fun e W' => (∃ v, e = .returned v) ∧ ((∃ xs, xs = [] ∧ J xs W') ∨ (∃ pre, (False ∧ pre = ([] : List (ByteArray × Int))) ∧ J pre W')) := by
  refine callsIn_of_wp Try.func31 rfl trivial ?_ rfl
  simp only [Try.ntmps31, List.size_toArray, List.length_cons, List.length_nil, Nat.reduceAdd, Nat.reduceSub, Array.replicate_succ, Array.replicate_zero, List.push_toArray, List.append_toArray, List.nil_append, List.cons_append]
  gi_wp2_with (refine ⟨trivial, ?_⟩; gi_at_call 27; refine (callsIn_wide.2 (made_no _ _ hN)).mono ?_; rintro e w' ⟨rfl, rfl⟩)
  refine bodyPost_ret (results_none rfl _ _ _) rfl ⟨⟨_, rfl⟩, .inl ⟨[], rfl, h0⟩⟩
theorem kinds_stops_no (p : Option Addr) (w : World) (Bn : Nat) (hBn : Bn < w.heap.size) (hc : w.cell? ⟨Bn, 0, none⟩ = some (.pointer p)) (hN : Nobody w p) (Kp : World → World → Prop) :
    SeqStopsK Fence.wide 5 Try.prog 31 #[.pointer (some ⟨Bn, 0, none⟩)] (fun x : ByteArray × Int => #[.string x.1, .int .i64 x.2]) Kp (fun xs => xs = []) (fun pre => False ∧ pre = []) 0 w := fun l J Jx W hW _ _ _ h0 => by
  refine (kinds1_no l Bn p J W ((hW.cell (p := ⟨Bn, 0, none⟩) hBn).trans hc) (hN.mono hW) h0).mono ?_
  rintro e W' ⟨he, h | ⟨pre, ⟨h, _⟩, _⟩⟩
  · exact ⟨he, .inl h⟩
  · exact h.elim
theorem run_equalIn_func_nil (w : World) (d : Nat) (f : Fn) (a b : Array Value) : (Op.equalIn (d + 1) 74 (.func f a b) .nilFunc).run Try.prog w = .ok false w := by
  simp [Op.equalIn, run_underlying Try.underlying74]
theorem run_eql_func_nil (w : World) (f : Fn) (a b : Array Value) : (binOp .eql 74 (.func f a b) .nilFunc).run Try.prog w = .ok (.bool false) w := by
  simp only [binOp]
  simp [Op.equal, Op.maxDepth, run_equalIn_func_nil w 9999 f a b]
set_option maxRecDepth 100000 in
set_option maxHeartbeats 2000000 in
theorem kinds_no (w : World) (p : Option Addr) (m : Int) (hN : Nobody w p) : Calls Try.prog 19 #[.pointer p, .int .i64 m] w fun e w' => e = .returned (.slice none 0 0) ∧ Below w.heap.size w w' := by
  have hfn := run_eql_func_nil
  have HN := Lib.hid (hN.mono ((((Below.refl w.heap.size w).alloc (Nat.le_refl _) (.cells #[.int .i64 m] 3)).alloc (by simp) (.cells #[.slice none 0 0] 49)).alloc (by simp; omega) (.cells #[.pointer p] 36)))
  clear hN
  refine (callsIn_wide (n := 6)).1 ?_
  refine callsIn_of_wp_marks Try.func19 rfl trivial ?_ rfl
  simp only [Try.ntmps19, List.size_toArray, List.length_cons, List.length_nil, Nat.reduceAdd, Nat.reduceSub, Array.replicate_succ, Array.replicate_zero, List.push_toArray, List.append_toArray, List.nil_append, List.cons_append]
  gi_wp2_with (refine ⟨trivial, ?_⟩; gi_at_call 28; refine (callsIn_wide.2 (tkinds _ _)).mono ?_; rintro e w' ⟨rfl, rfl⟩)
  have hsz : (((w.alloc (.cells #[.int .i64 m] 3)).alloc (.cells #[.slice none 0 0] 49)).alloc (.cells #[.pointer p] 36)).heap.size = w.heap.size + 3 := by simp
  refine wpIn_rangeFunc_ownG rfl (by omega) (gf := 31) (lb := #[.pointer (some ⟨w.heap.size + 2, 0, none⟩)]) rfl trivial (enters_of Try.func31 (by kernel_rfl) rfl)
    (kinds_stops_no p _ (w.heap.size + 2) (by simp) (by simp [go_sem]) HN.out (Below w.heap.size)) belowK_t (belowK_b (by simp; omega)) (Below.refl _ _) (fun _ => rfl)
    (fun _ W => W.cell? ⟨w.heap.size + 1, 0, none⟩ = some (.slice none 0 0) ∧ Below w.heap.size w W)
    (fun _ _ _ => False)
    (OwnFrom.and (Own.from (fun s A B row hs hg hr => cell_kept hs hg hr) _) (ownFrom_below (Nat.le_refl _) (by simp; omega)))
    (fun _ _ _ _ _ hs _ _ => hs)
    ⟨by simp [go_sem], (((Below.refl w.heap.size w).alloc (Nat.le_refl _) (.cells #[.int .i64 m] 3)).alloc (by simp) (.cells #[.slice none 0 0] 49)).alloc (by simp; omega) (.cells #[.pointer p] 36)⟩
    (fun x => { tmps := #[.pointer p, .int .i64 m, undef, .pointer (some ⟨w.heap.size, 0, none⟩), .slice none 0 0, .pointer (some ⟨w.heap.size + 1, 0, none⟩), .func (.func 31) #[] #[.pointer (some ⟨w.heap.size + 1 + 1, 0, none⟩)], .string x.1, .int .i64 x.2, .pointer p, .func (.func 31) #[] #[.pointer (some ⟨w.heap.size + 1 + 1, 0, none⟩)], .func (.func 31) #[] #[.pointer (some ⟨w.heap.size + 1 + 1, 0, none⟩)], .bool false, .func (.func 31) #[] #[.pointer (some ⟨w.heap.size + 1 + 1, 0, none⟩)], .string x.1, .int .i64 x.2, undef, undef, undef, undef, undef, undef, undef, undef, undef, undef, undef], defers := [] }) ?assign ?body ?done ?stop
  case assign =>
    intro l x W K hK
    gi_wp2
    exact hK
  case body =>
    rintro l pre x W _ hlt
    exact absurd hlt (by omega)
  case done =>
    rintro D ys W hD rfl ⟨hc, hB⟩ hK
    gi_wp2
    refine ⟨by simp, .inl ⟨_, _, rfl, run_takeDeferred hK, ?_⟩⟩
    exact ⟨_, results_tmp rfl _ _ _, rfl, hB.trans (belowK_b (w := w) (Nat.le_refl _) W D _ _ (by simp at hD; omega) hK rfl rfl)⟩
  case stop =>
    rintro D c pre W _ _ h _
    exact h.elim
end Go.Proofs.Ytcbdmaffcjdnbaa
