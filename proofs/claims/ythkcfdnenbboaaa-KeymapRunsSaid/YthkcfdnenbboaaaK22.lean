/- Walks: the methods of a map that nobody made. -/
import Derived.Test.YthkcfdnenbboaaaK18
import Derived.RangeFuncNested
import Derived.RangeFuncBound
import Derived.RangeFuncCalls
import Derived.RangeFuncLeaves
import Derived.Shelf.Abstract
import Derived.Shelf.RegionOpen
import Derived.OwnWalkIn
import Derived.TacticsInMore
import Derived.LoopNIn
import Derived.LoopIn
import Derived.WalkSpells
namespace Go.Proofs.Ythkcfdnenbboaaa
open Go.RowKit Go.Shelf
attribute [local go_sem] Oper.semAt_some
theorem names_no (w : World) (p : Option Addr) (h : Nobody w p) : Calls Try.prog 60 #[.pointer p] w fun e w' => e = .returned (.slice none 0 0) ∧ w = w' := by
  have H := Lib.hid h
  clear h
  go_enter Try.func60, Try.ntmps60
  go_wp2_with (go_at_call 36; refine (wmade_no _ _ H.out).mono ?_; rintro e w' ⟨rfl, rfl⟩)
  go_ret
  exact ⟨rfl, rfl⟩
theorem len_no (w : World) (p : Option Addr) (h : Nobody w p) : Calls Try.prog 9 #[.pointer p] w fun e w' => e = .returned (.int .i64 0) ∧ w = w' := by
  have H := Lib.hid h
  clear h
  go_enter Try.func9, Try.ntmps9
  go_wp2_with (go_at_call 36; refine (wmade_no _ _ H.out).mono ?_; rintro e w' ⟨rfl, rfl⟩)
  go_ret
  exact ⟨rfl, rfl⟩
theorem fork_no (w : World) (p : Option Addr) (h : Nobody w p) : Calls Try.prog 27 #[.pointer p] w fun e w' => e = .returned (.pointer none) ∧ w = w' := by
  have H := Lib.hid h
  clear h
  go_enter Try.func27, Try.ntmps27
  go_wp2_with (go_at_call 36; refine (wmade_no _ _ H.out).mono ?_; rintro e w' ⟨rfl, rfl⟩)
  go_ret
  exact ⟨rfl, rfl⟩
theorem bind_no (w : World) (p : Option Addr) (h : Nobody w p) (k : Ky) (a : Int) : Calls Try.prog 8 #[.pointer p, k.v, .int .i64 a] w fun e w' => e = .returned (.int .i64 4) ∧ Below w.heap.size w w' := by
  obtain ⟨kc, ks, kn, kal, ksh, kct⟩ := k
  have H := Lib.hid (h.mono ((Below.refl w.heap.size w).alloc (Nat.le_refl _) (.cells #[.int .i64 kc, .string ks, .int .i64 kn, .bool kal, .bool ksh, .bool kct] 27)))
  clear h
  unfold Ky.v
  go_enter Try.func8, Try.ntmps8
  go_wp2_with (go_at_call 36; refine (wmade_no _ _ H.out).mono ?_; rintro e w' ⟨rfl, rfl⟩)
  go_ret
  exact ⟨rfl, (Below.refl _ _).alloc (Nat.le_refl _) _⟩
theorem act_no (w : World) (p : Option Addr) (h : Nobody w p) (k : Ky) (hk : k.In) : Calls Try.prog 29 #[.pointer p, k.v] w fun e w' => e = .returned (.tuple #[.int .i64 0, .bool false]) ∧ Below w.heap.size w w' := by
  have HN := Lib.hid (fun W => wnameS k hk W)
  obtain ⟨nm, hnm⟩ : ∃ n, n = k.name := ⟨_, rfl⟩
  rw [← hnm] at HN
  clear hnm hk
  obtain ⟨kc, ks, kn, kal, ksh, kct⟩ := k
  have H := Lib.hid (h.mono ((Below.refl w.heap.size w).alloc (Nat.le_refl _) (.cells #[.int .i64 kc, .string ks, .int .i64 kn, .bool kal, .bool ksh, .bool kct] 27)))
  clear h
  unfold Ky.v at HN ⊢
  simp only [] at HN
  go_enter Try.func29, Try.ntmps29
  go_wp2_with (first | (go_at_call 17; fail))
  go_at_call 17
  refine (HN.out _).mono ?_
  rintro e w1 ⟨rfl, hb⟩
  have HB := Lib.hid (((Below.refl w.heap.size w).alloc (Nat.le_refl _) _).trans (below_le hb (by simp)))
  have H1 := Lib.hid (H.out.mono hb)
  clear hb
  go_wp2_with (go_at_call 36; refine (wmade_no _ _ H1.out).mono ?_; rintro e w' ⟨rfl, rfl⟩)
  all_goals (go_ret2; exact ⟨rfl, HB.out⟩)
theorem drop_no (w : World) (p : Option Addr) (h : Nobody w p) (k : Ky) (hk : k.In) : Calls Try.prog 25 #[.pointer p, k.v] w fun e w' => e = .returned (.bool false) ∧ Below w.heap.size w w' := by
  obtain ⟨kc, ks, kn, kal, ksh, kct⟩ := k
  have H := Lib.hid (h.mono ((Below.refl w.heap.size w).alloc (Nat.le_refl _) (.cells #[.int .i64 kc, .string ks, .int .i64 kn, .bool kal, .bool ksh, .bool kct] 27)))
  have HA := Lib.hid (fun W hW => act_no W p hW ⟨kc, ks, kn, kal, ksh, kct⟩ hk)
  clear h
  unfold Ky.v at HA ⊢
  simp only [] at HA
  go_enter Try.func25, Try.ntmps25
  go_wp2_with (first | (go_at_call 29; fail))
  go_at_call 29
  refine (HA.out _ H.out).mono ?_
  rintro e w1 ⟨rfl, hb⟩
  have HB := Lib.hid (((Below.refl w.heap.size w).alloc (Nat.le_refl _) _).trans (below_le hb (by simp)))
  clear hb
  go_wp2
  go_ret
  exact ⟨rfl, HB.out⟩
theorem wall (w : World) (p : Option Addr) : Calls Try.prog 55 #[.pointer p] w fun e w' => e = .returned (.func (.func 59) #[] #[.pointer (some ⟨w.heap.size, 0, none⟩)]) ∧ w' = w.alloc (.cells #[.pointer p] 22) := by
  go_enter Try.func55, Try.ntmps55
  go_wp2
  go_ret
  exact ⟨rfl, rfl⟩
/-- The iterator of a map that nobody made yields nothing. -/
theorem all1_no (l Bn : Nat) (p : Option Addr) (J : List (ByteArray × Int) → World → Prop) (W : World) (hB : W.cell? ⟨Bn, 0, none⟩ = some (.pointer p)) (hN : Nobody W p) (h0 : J [] W) :
    CallsIn Fence.wide 5 Try.prog 59 #[.func (.yield l) #[] #[], .pointer (some ⟨Bn, 0, none⟩)] W fun e W' => (∃ v, e = .returned v) ∧ ((∃ xs, xs = [] ∧ J xs W') ∨ (∃ pre, (False ∧ pre = ([] : List (ByteArray × Int))) ∧ J pre W')) := by
  refine callsIn_of_wp Try.func59 rfl trivial ?_ rfl
  simp only [Try.ntmps59, List.size_toArray, List.length_cons, List.length_nil, Nat.reduceAdd, Nat.reduceSub, Array.replicate_succ, Array.replicate_zero, List.push_toArray, List.append_toArray, List.nil_append, List.cons_append]
  gi_wp2_with (refine ⟨trivial, ?_⟩; gi_at_call 60; refine (callsIn_wide.2 (names_no _ _ hN)).mono ?_; rintro e w' ⟨rfl, rfl⟩)
  gi_loopw [13] (fun i wr => i = .int .i64 0 ∧ W = wr) (fun _ _ => 0)
  case atStart => exact ⟨rfl, rfl⟩
  case round =>
    obtain ⟨rfl, rfl⟩ := hrel
    gi_wp2
    gi_loopw [29] (fun i wr => i = .int .i64 0 ∧ W = wr) (fun _ _ => 0)
    case atStart => exact ⟨rfl, rfl⟩
    case round =>
      obtain ⟨rfl, rfl⟩ := hrel
      gi_wp2
      go_end0
      exact ⟨⟨_, rfl⟩, .inl ⟨[], rfl, h0⟩⟩
theorem all_stops_no (p : Option Addr) (w : World) (Bn : Nat) (hBn : Bn < w.heap.size) (hc : w.cell? ⟨Bn, 0, none⟩ = some (.pointer p)) (hN : Nobody w p) (Kp : World → World → Prop) :
    SeqStopsK Fence.wide 5 Try.prog 59 #[.pointer (some ⟨Bn, 0, none⟩)] (fun x : ByteArray × Int => #[.string x.1, .int .i64 x.2]) Kp (fun xs => xs = []) (fun pre => False ∧ pre = []) 0 w := fun l J Jx W hW _ _ _ h0 => by
  refine (all1_no l Bn p J W ((hW.cell (p := ⟨Bn, 0, none⟩) hBn).trans hc) (hN.mono hW) h0).mono ?_
  rintro e W' ⟨he, h | ⟨pre, ⟨h, _⟩, _⟩⟩
  · exact ⟨he, .inl h⟩
  · exact h.elim
theorem run_equalIn_func_nil (w : World) (d : Nat) (f : Fn) (a b : Array Value) : (Op.equalIn (d + 1) 94 (.func f a b) .nilFunc).run Try.prog w = .ok false w := by
  simp [Op.equalIn, run_underlying Try.underlying94]
theorem run_eql_func_nil (w : World) (f : Fn) (a b : Array Value) : (binOp .eql 94 (.func f a b) .nilFunc).run Try.prog w = .ok (.bool false) w := by
  simp only [binOp]
  simp [Op.equal, Op.maxDepth, run_equalIn_func_nil w 9999 f a b]
set_option maxRecDepth 100000 in
set_option maxHeartbeats 2000000 in
theorem told_no (w : World) (p : Option Addr) (m : Int) (hN : Nobody w p) : Calls Try.prog 31 #[.pointer p, .int .i64 m] w fun e w' => e = .returned (.tuple #[.slice none 0 0, .bool true]) ∧ Below w.heap.size w w' := by
  have hfn := run_eql_func_nil
  have HN := Lib.hid (hN.mono ((((Below.refl w.heap.size w).alloc (Nat.le_refl _) (.cells #[.int .i64 m] 3)).alloc (by simp) (.cells #[.pointer p] 22)).alloc (by simp; omega) (.cells #[.slice none 0 0] 42)))
  clear hN
  refine (callsIn_wide (n := 6)).1 ?_
  refine callsIn_of_wp_marks Try.func31 rfl trivial ?_ rfl
  simp only [Try.ntmps31, List.size_toArray, List.length_cons, List.length_nil, Nat.reduceAdd, Nat.reduceSub, Array.replicate_succ, Array.replicate_zero, List.push_toArray, List.append_toArray, List.nil_append, List.cons_append]
  gi_wp2_with (refine ⟨trivial, ?_⟩; gi_at_call 55; refine (callsIn_wide.2 (wall _ _)).mono ?_; rintro e w' ⟨rfl, rfl⟩)
  refine wpIn_rangeFunc_ownG rfl (by omega) (gf := 59) (lb := #[.pointer (some ⟨w.heap.size + 1, 0, none⟩)]) rfl trivial (enters_of Try.func59 (by kernel_rfl) rfl)
    (all_stops_no p _ (w.heap.size + 1) (by simp) (by simp [go_sem]) HN.out (Below w.heap.size)) belowK_t (belowK_b (by simp; omega)) (Below.refl _ _) (fun _ => rfl)
    (fun _ W => W.cell? ⟨w.heap.size + 2, 0, none⟩ = some (.slice none 0 0) ∧ Below w.heap.size w W)
    (fun _ _ _ => False)
    (OwnFrom.and (Own.from (fun s A B row hs hg hr => cell_kept hs hg hr) _) (ownFrom_below (Nat.le_refl _) (by simp; omega)))
    (fun _ _ _ _ _ hs _ _ => hs)
    ⟨by simp [go_sem], (((Below.refl w.heap.size w).alloc (Nat.le_refl _) (.cells #[.int .i64 m] 3)).alloc (by simp) (.cells #[.pointer p] 22)).alloc (by simp; omega) (.cells #[.slice none 0 0] 42)⟩
    (fun x => { tmps := #[.pointer p, .int .i64 m, undef, .pointer (some ⟨w.heap.size, 0, none⟩), .slice none 0 0, .bool false, .func (.func 59) #[] #[.pointer (some ⟨w.heap.size + 1, 0, none⟩)], .pointer (some ⟨w.heap.size + 1 + 1, 0, none⟩), .string x.1, .int .i64 x.2, .pointer p, .func (.func 59) #[] #[.pointer (some ⟨w.heap.size + 1, 0, none⟩)], .func (.func 59) #[] #[.pointer (some ⟨w.heap.size + 1, 0, none⟩)], .bool false, .func (.func 59) #[] #[.pointer (some ⟨w.heap.size + 1, 0, none⟩)], .string x.1, .int .i64 x.2, undef, undef, undef, undef, undef, undef, undef, undef, undef, undef, undef], defers := [] }) ?assign ?body ?done ?stop
  case assign =>
    intro l x W K hK
    gi_wp2
    exact hK
  case body =>
    rintro l pre x W _ hlt
    exact absurd hlt (by omega)
  case done =>
    rintro D ys W hD rfl ⟨hc, hB⟩ hK
    gi_wp2
    refine ⟨by simp, .inl ⟨_, _, rfl, run_takeDeferred hK, ?_⟩⟩
    exact ⟨_, results_tmp2 rfl _ _ _, rfl, hB.trans (belowK_b (w := w) (Nat.le_refl _) W D _ _ (by simp at hD; omega) hK rfl rfl)⟩
  case stop =>
    rintro D c pre W _ _ h _
    exact h.elim
set_option maxRecDepth 100000 in
set_option maxHeartbeats 2000000 in
theorem keys_no (w : World) (p : Option Addr) (m : Int) (hN : Nobody w p) : Calls Try.prog 34 #[.pointer p, .int .i64 m] w fun e w' => e = .returned (.slice none 0 0) ∧ Below w.heap.size w w' := by
  have HN := Lib.hid (hN.mono ((((Below.refl w.heap.size w).alloc (Nat.le_refl _) (.cells #[.int .i64 m] 30)).alloc (by simp) (.cells #[.slice none 0 0] 62)).alloc (by simp; omega) (.cells #[.pointer p] 22)))
  clear hN
  refine (callsIn_wide (n := 6)).1 ?_
  refine callsIn_of_wp_marks Try.func34 rfl trivial ?_ rfl
  simp only [Try.ntmps34, List.size_toArray, List.length_cons, List.length_nil, Nat.reduceAdd, Nat.reduceSub, Array.replicate_succ, Array.replicate_zero, List.push_toArray, List.append_toArray, List.nil_append, List.cons_append]
  gi_wp2_with (refine ⟨trivial, ?_⟩; gi_at_call 55; refine (callsIn_wide.2 (wall _ _)).mono ?_; rintro e w' ⟨rfl, rfl⟩)
  refine wpIn_rangeFunc_ownG rfl (by omega) (gf := 59) (lb := #[.pointer (some ⟨w.heap.size + 2, 0, none⟩)]) rfl trivial (enters_of Try.func59 (by kernel_rfl) rfl)
    (all_stops_no p _ (w.heap.size + 2) (by simp) (by simp [go_sem]) HN.out (Below w.heap.size)) belowK_t (belowK_b (by simp; omega)) (Below.refl _ _) (fun _ => rfl)
    (fun _ W => W.cell? ⟨w.heap.size + 1, 0, none⟩ = some (.slice none 0 0) ∧ Below w.heap.size w W)
    (fun _ _ _ => False)
    (OwnFrom.and (Own.from (fun s A B row hs hg hr => cell_kept hs hg hr) _) (ownFrom_below (Nat.le_refl _) (by simp; omega)))
    (fun _ _ _ _ _ hs _ _ => hs)
    ⟨by simp [go_sem], (((Below.refl w.heap.size w).alloc (Nat.le_refl _) (.cells #[.int .i64 m] 30)).alloc (by simp) (.cells #[.slice none 0 0] 62)).alloc (by simp; omega) (.cells #[.pointer p] 22)⟩
    (fun x => { tmps := #[.pointer p, .int .i64 m, undef, .pointer (some ⟨w.heap.size, 0, none⟩), .slice none 0 0, .pointer (some ⟨w.heap.size + 1, 0, none⟩), .string x.1, .int .i64 x.2, .pointer p, .func (.func 59) #[] #[.pointer (some ⟨w.heap.size + 1 + 1, 0, none⟩)], .string x.1, .int .i64 x.2, undef, undef, undef, undef, undef, undef, undef, undef], defers := [] }) ?assign ?body ?done ?stop
  case assign =>
    intro l x W K hK
    gi_wp2
    exact hK
  case body =>
    rintro l pre x W _ hlt
    exact absurd hlt (by omega)
  case done =>
    rintro D ys W hD rfl ⟨hc, hB⟩ hK
    gi_wp2
    refine ⟨by simp, .inl ⟨_, _, rfl, run_takeDeferred hK, ?_⟩⟩
    exact ⟨_, results_tmp rfl _ _ _, rfl, hB.trans (belowK_b (w := w) (Nat.le_refl _) W D _ _ (by simp at hD; omega) hK rfl rfl)⟩
  case stop =>
    rintro D c pre W _ _ h _
    exact h.elim
end Go.Proofs.Ythkcfdnenbboaaa
