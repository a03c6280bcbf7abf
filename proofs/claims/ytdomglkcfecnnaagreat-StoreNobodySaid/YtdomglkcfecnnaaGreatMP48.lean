/- Own texts, merged: YG, Y1, Y2, YH, YI. -/
import Derived.Deep.Slices
import Derived.ChangeSlices
import Derived.ChangeArms
import Derived.WideShapes
import Derived.RowKit
import Derived.Test.YtdomglkcfecnnaaGreatH9
import Derived.Test.YtdomglkcfecnnaaGreatMP47
/- Values as an argument; what few makes of them (a row, whichever). -/
namespace Go.Proofs.YtdomglkcfecnnaaGreat
open Go Go.RowKit Go.Shelf Go.ChangeShapes Go.WideShapes Go.Deep
attribute [local go_sem] run_store_float
/-- A value's five cells. -/
structure V5 where
  s : ByteArray
  n : Int
  b : Bool
  x : Option Addr
  l : Nat
  c : Nat
  f : Nat
def V5.a (v : V5) : Array Value := #[.string v.s, .int .i64 v.n, .bool v.b, .slice v.x v.l v.c, .float .f64 v.f]
def V5.ok (v : V5) : Prop := v.l ≤ v.c ∧ v.c ≤ 9223372036854775807 ∧ (0 < v.l → ∃ g o, v.x = some ⟨g, o, none⟩)
/-- A row of values in memory. -/
def VsA (w : World) (x : Option Addr) (n : Nat) : Prop := 0 < n → ∃ g o, x = some ⟨g, o, none⟩ ∧ g < w.heap.size ∧ ∀ i, i < n → ∃ v : V5, v.ok ∧ w.cell? ⟨g, o + i * 5, none⟩ = some (.string v.s) ∧ w.cell? ⟨g, o + i * 5 + 1, none⟩ = some (.int .i64 v.n) ∧ w.cell? ⟨g, o + i * 5 + 2, none⟩ = some (.bool v.b) ∧ w.cell? ⟨g, o + i * 5 + 3, none⟩ = some (.slice v.x v.l v.c) ∧ w.cell? ⟨g, o + i * 5 + 4, none⟩ = some (.float .f64 v.f)
theorem VsA.below {w W : World} {x : Option Addr} {n : Nat} (h : VsA w x n) (hb : Below w.heap.size w W) : VsA W x n := fun hp => by
  obtain ⟨g, o, e, hg, hc⟩ := h hp
  refine ⟨g, o, e, Nat.lt_of_lt_of_le hg hb.size, fun i hi => ?_⟩
  obtain ⟨v, hv, h0, h1, h2, h3, h4⟩ := hc i hi
  exact ⟨v, hv, (hb.cell (p := ⟨g, o + i * 5, none⟩) hg).trans h0, (hb.cell (p := ⟨g, o + i * 5 + 1, none⟩) hg).trans h1, (hb.cell (p := ⟨g, o + i * 5 + 2, none⟩) hg).trans h2, (hb.cell (p := ⟨g, o + i * 5 + 3, none⟩) hg).trans h3, (hb.cell (p := ⟨g, o + i * 5 + 4, none⟩) hg).trans h4⟩
theorem bCut (T : ByteArray) (w : World) : Calls Tryz.prog 28 #[.string T, .int .i64 200] w fun e w' => (∃ s, e = .returned (.string s)) ∧ w = w' := by
  by_cases h : 200 < T.size
  · have i1 : (200 : Int) < (T.size : Int) := by omega
    have i2 : 200 ≤ T.size := by omega
    go_enter Tryz.func28, Tryz.ntmps28
    go_wp2
    go_ret
    exact ⟨⟨_, rfl⟩, rfl⟩
  · have i1 : ¬ (200 : Int) < (T.size : Int) := by omega
    go_enter Tryz.func28, Tryz.ntmps28
    go_wp2
    go_ret
    exact ⟨⟨_, rfl⟩, rfl⟩
/-- The world ahead of value's steps. -/
theorem val_facts (w : World) (a : Value) (b : Value) (c : Value) (d : Value) (f : Value) : VLBx ((w.alloc (.cells #[a, b, c, d, f] 62)).alloc (.cells #[.string ⟨#[]⟩, .int .i64 0, .bool false, .slice none 0 0, .float .f64 0] 62)) w.heap.size a b c d f ∧
    VLBx ((w.alloc (.cells #[a, b, c, d, f] 62)).alloc (.cells #[.string ⟨#[]⟩, .int .i64 0, .bool false, .slice none 0 0, .float .f64 0] 62)) (w.heap.size + 1) (.string ⟨#[]⟩) (.int .i64 0) (.bool false) (.slice none 0 0) (.float .f64 0) ∧
    Below w.heap.size w ((w.alloc (.cells #[a, b, c, d, f] 62)).alloc (.cells #[.string ⟨#[]⟩, .int .i64 0, .bool false, .slice none 0 0, .float .f64 0] 62)) :=
  ⟨(heap_alloc_old _ _ (by simp)).trans (heap_alloc_new _ _), alloc_new1 w _ _, ((Below.refl _ _).alloc (Nat.le_refl _) _).alloc (by simp) _⟩
theorem VLBx.put {W : World} {b : Nat} {a0 a1 a2 a3 a4 : Value} (h : VLBx W b a0 a1 a2 a3 a4) : (∀ v, VLBx (W.setCell ⟨b, 0, none⟩ v) b v a1 a2 a3 a4) ∧ (∀ v, VLBx (W.setCell ⟨b, 3, none⟩ v) b a0 a1 a2 v a4) := by
  unfold VLBx at h ⊢
  exact ⟨fun v => by simpa using set_block (o := 0) h v, fun v => by simpa using set_block (o := 3) h v⟩
theorem VLBx.other {W : World} {b j : Nat} {a0 a1 a2 a3 a4 : Value} (h : VLBx W b a0 a1 a2 a3 a4) (hj : b ≠ j) (o : Nat) (v : Value) : VLBx (W.setCell ⟨j, o, none⟩ v) b a0 a1 a2 a3 a4 := by
  unfold VLBx at h ⊢
  rw [set_other hj]
  exact h
set_option maxRecDepth 100000 in
set_option maxHeartbeats 2000000 in
theorem bVal (v : V5) (w : World) (hv : v.ok) : Calls Tryz.prog 17 #[.agg v.a] w fun e w' => (∃ u : V5, e = .returned (.agg u.a)) ∧ Below w.heap.size w w' := by
  obtain ⟨s, n, b, x, l, c, f⟩ := v
  obtain ⟨h1, h2, h3⟩ := hv
  dsimp only at h1 h2 h3
  have HL := Lib.hid (And.intro h1 (And.intro h2 h3))
  clear h1 h2 h3
  unfold V5.a
  dsimp only
  go_enter Tryz.func17, Tryz.ntmps17
  obtain ⟨hV, hR, hB⟩ := val_facts w (.string s) (.int .i64 n) (.bool b) (.slice x l c) (.float .f64 f)
  go_upto_region 1 with fail
  generalize (w.alloc (.cells #[.string s, .int .i64 n, .bool b, .slice x l c, .float .f64 f] 62)).alloc (.cells #[.string ⟨#[]⟩, .int .i64 0, .bool false, .slice none 0 0, .float .f64 0] 62) = w1 at hV hR hB ⊢
  obtain ⟨v0, v1, v2, v3, v4, vf, vl⟩ := hV.cells
  have f0 := vf 0
  have f3 := vf 3
  have HV := Lib.hid hV
  have HR := Lib.hid hR
  have HB := Lib.hid hB
  clear hV hR hB vf
  go_upto_region 2 with (first | (go_at_call 28; refine (bCut s w1).mono ?_; rintro e w2 ⟨⟨s', rfl⟩, rfl⟩))
  have hV2 := HV.out.put.1 (.string s')
  have hR2 := HR.out.other (show w.heap.size + 1 ≠ w.heap.size by omega) 0 (.string s')
  have hB2 : Below w.heap.size w (w1.setCell ⟨w.heap.size, 0, none⟩ (.string s')) := HB.out.setCell (Nat.le_refl _) _
  generalize w1.setCell ⟨w.heap.size, 0, none⟩ (.string s') = w2 at hV2 hR2 hB2 ⊢
  clear v0 v1 v2 v3 v4 f0 f3 vl HV HR HB
  by_cases h40 : 40 < l
  · obtain ⟨g, o, rfl⟩ := HL.out.2.2 (by omega)
    obtain ⟨k1, k2, _⟩ := HL.out
    have i1 : (40 : Int) < (l : Int) := by omega
    have i2 : (40 : Int) ≤ (c : Int) := by omega
    obtain ⟨v0, v1, v2, v3, v4, vf, vl⟩ := hV2.cells
    have f0 := vf 0
    have f3 := vf 3
    have HV2 := Lib.hid hV2
    have HR2 := Lib.hid hR2
    have HB2 := Lib.hid hB2
    clear hV2 hR2 hB2 vf
    go_upto_region 4 with fail
    have hV3 := HV2.out.put.2 (.slice (some ⟨g, o, none⟩) 40 c)
    have hR3 := HR2.out.other (show w.heap.size + 1 ≠ w.heap.size by omega) 3 (.slice (some ⟨g, o, none⟩) 40 c)
    have hB3 : Below w.heap.size w (w2.setCell ⟨w.heap.size, 3, none⟩ (.slice (some ⟨g, o, none⟩) 40 c)) := HB2.out.setCell (Nat.le_refl _) _
    generalize w2.setCell ⟨w.heap.size, 3, none⟩ (.slice (some ⟨g, o, none⟩) 40 c) = w3 at hV3 hR3 hB3 ⊢
    clear v0 v1 v2 v3 v4 f0 f3 vl HV2 HR2 HB2
    obtain ⟨v0, v1, v2, v3, v4, vf, vl⟩ := hV3.cells
    obtain ⟨r0, r1, r2, r3, r4, rf, rl⟩ := hR3.cells
    have f0 := rf 0
    have f1 := rf 1
    have f2 := rf 2
    have f3 := rf 3
    have f4 := rf 4
    have HR3 := Lib.hid hR3
    have HB3 := Lib.hid hB3
    clear hV3 hR3 hB3 vf rf
    go_wp2_with fail
    refine bodyPost_ret (results_cell rfl _ _ (w.heap.size + 1) 62 _ (0, 0) _ rfl (putV5_blk HR3.out _ _ _ _ _) Tryz.underlying62 rfl (by kernel_rfl)) rfl ⟨⟨⟨s', n, b, _, 40, c, f⟩, rfl⟩, putV5_below HB3.out (by omega) _ _ _ _ _⟩
  · have i1 : ¬ (40 : Int) < (l : Int) := by omega
    obtain ⟨v0, v1, v2, v3, v4, vf, vl⟩ := hV2.cells
    obtain ⟨r0, r1, r2, r3, r4, rf, rl⟩ := hR2.cells
    have f0 := rf 0
    have f1 := rf 1
    have f2 := rf 2
    have f3 := rf 3
    have f4 := rf 4
    have HV2 := Lib.hid hV2
    have HR2 := Lib.hid hR2
    have HB2 := Lib.hid hB2
    clear hV2 hR2 hB2 vf rf
    go_wp2_with fail
    refine bodyPost_ret (results_cell rfl _ _ (w.heap.size + 1) 62 _ (0, 0) _ rfl (putV5_blk HR2.out _ _ _ _ _) Tryz.underlying62 rfl (by kernel_rfl)) rfl ⟨⟨⟨s', n, b, x, l, c, f⟩, rfl⟩, putV5_below HB2.out (by omega) _ _ _ _ _⟩
/-- What few answers with: a row of values of its own. -/
def GivesV (w : World) (e : Ending) (w' : World) : Prop := (∃ v, e = .returned v) ∧ Below w.heap.size w w'
set_option maxRecDepth 100000 in
set_option maxHeartbeats 2000000 in
theorem bFew (x : Option Addr) (n cap : Nat) (w : World) (hx : VsA w x n) (hm : n ≤ 9223372036854775807) : Calls Tryz.prog 9 #[.slice x n cap] w (GivesV w) := by
  obtain ⟨i0, hi0, hz0, hz1, hz2⟩ := info_partsVl
  have HI := Lib.hid hi0
  have HZ0 := Lib.hid hz0
  have HZ1 := Lib.hid hz1
  have HZ2 := Lib.hid hz2
  have HX := Lib.hid hx
  clear hx hi0 hz0 hz1 hz2
  go_enter Tryz.func9, Tryz.ntmps9
  go_wp2_with fail
  go_loopw [3, 4] (fun v i wr => ∃ k : Nat, k ≤ n ∧ k ≤ 12 ∧ i = .int .i64 (k : Int) ∧ Hid (∃ xs, wr.ownsRow w.heap.size 62 5 v k xs) ∧ Hid (Below w.heap.size w wr)) (fun _ i _ => n - (intOf i).toNat)
  case atStart => exact ⟨0, by omega, by omega, rfl, Lib.hid ⟨[], World.ownsRow_nil _ _ _ _⟩, Lib.hid (Below.refl _ _)⟩
  case round =>
    obtain ⟨k, hk, hk2, rfl, HO, HB⟩ := hrel
    by_cases hlt : k < n ∧ k < 12
    · obtain ⟨h1, h2⟩ := hlt
      have h1z : (k : Int) < (n : Int) := by omega
      have h2z : (k : Int) < 12 := by omega
      have hsz := HB.out.size
      obtain ⟨xs, hO⟩ := HO.out
      obtain ⟨g, o, rfl, hg, hc⟩ := (HX.out.below HB.out) (by omega)
      obtain ⟨v, hv, c0, c1, c2, c3, c4⟩ := hc k h1
      have HV : Hid (∀ W, Calls Tryz.prog 17 #[.agg v.a] W fun e w' => (∃ u : V5, e = .returned (.agg u.a)) ∧ Below W.heap.size W w') := Lib.hid (fun W => bVal v W hv)
      unfold V5.a at HV
      have HO1 := Lib.hid hO
      clear hO hc HO hv
      go_wp2_with (first | (go_at_call 17; refine (HV.out _).mono ?_; rintro e w1 ⟨⟨u, rfl⟩, hb1⟩; have HO2 : Hid (Below w.heap.size w w1 ∧ w1.ownsRow w.heap.size 62 5 _ k xs) := Lib.hid ⟨HB.out.trans (below_le hb1 hsz), row_kept HO1.out (fun j hj => hb1.block j (HO1.out.lt j hj).2)⟩; have hz1 : w.heap.size ≤ w1.heap.size := HO2.out.1.size; clear hb1) | (at_builtin; go_loud (refine wpList_append_own_at _ rfl _ _ 22 rfl w.heap.size 62 i0 (.agg #[.string ⟨#[]⟩, .int .i64 0, .bool false, .slice none 0 0, .float .f64 0]) 5 64 Tryz.underlying22 HI.out HZ0.out HZ1.out HZ2.out rfl (by decide) _ _ _ rfl (HO2.out.2.alloc _) ⟨w1.heap.size, 0, none⟩ 1 1 [.string u.s, .int .i64 u.n, .bool u.b, .slice u.x u.l u.c, .float .f64 u.f] rfl rfl (cell_many_new w1 _ _) (by simp [Value.oneCell']) (by unfold maxLen; omega) (by omega) (by simp; omega) ?_); intro v10 w10 hown10 hgrow10 hnil10 hat10; have HO10 := Lib.hid hown10; have HB10 : Hid (Below w.heap.size w w10) := Lib.hid ((HO2.out.1.alloc HO2.out.1.size _).grown hgrow10 (by simp; have := HO2.out.1.size; omega) (fun j hj => (HO2.out.2.lt j hj).1)); clear hown10 hgrow10 hnil10 hat10))
      go_roundw
      case rel => exact ⟨k + 1, by omega, by omega, by go_num, Lib.hid ⟨_, HO10.out⟩, HB10⟩
      case measure => simp [intOf]; omega
    · have hfin := HB.out
      obtain ⟨xs, hO⟩ := HO.out
      have HF := Lib.hid hfin
      have HLT := Lib.hid hlt
      clear hfin hlt hO
      by_cases q : k < n
      · have qz : (k : Int) < (n : Int) := by omega
        have q2 : ¬ (k : Int) < 12 := by have := HLT.out; omega
        go_wp2_with fail
        go_ret
        exact ⟨⟨_, rfl⟩, HF.out⟩
      · have qz : ¬ (k : Int) < (n : Int) := by omega
        go_wp2_with fail
        go_ret
        exact ⟨⟨_, rfl⟩, HF.out⟩
end Go.Proofs.YtdomglkcfecnnaaGreat
/- Walks: the methods of a book that nobody made. -/
namespace Go.Proofs.YtdomglkcfecnnaaGreat
open Go.RowKit Go.Shelf
attribute [local go_sem] Oper.semAt_some
/-- A book that is not made. -/
def Unmade (p : Option Addr) (w : World) : Prop := p = none ∨ ∃ b, p = some ⟨b, 0, none⟩ ∧ w.cell? ⟨b, 0, none⟩ = some (.bool false) ∧ b < w.heap.size
theorem Unmade.kept {p : Option Addr} {w w' : World} (h : Unmade p w) (hb : Below w.heap.size w w') : Unmade p w' := by
  rcases h with rfl | ⟨b, rfl, hc, hl⟩
  · exact .inl rfl
  · exact .inr ⟨b, rfl, (hb.cell (p := ⟨b, 0, none⟩) hl).trans hc, Nat.lt_of_lt_of_le hl hb.size⟩
theorem unLen (p : Option Addr) (w : World) (h : Unmade p w) : Calls Tryz.prog 6 #[.pointer p] w fun e w' => e = .returned (.int .i64 0) ∧ w = w' := by
  rcases h with rfl | ⟨b, rfl, hc, hl⟩
  · go_enter Tryz.func6, Tryz.ntmps6
    go_wp2
    go_ret
    exact ⟨rfl, rfl⟩
  · go_enter Tryz.func6, Tryz.ntmps6
    go_wp2
    go_ret
    exact ⟨rfl, rfl⟩
theorem unRecord (p : Option Addr) (i : Int) (w : World) (h : Unmade p w) : Calls Tryz.prog 4 #[.pointer p, .int .i64 i] w fun e w' => e = .returned (.tuple #[.slice none 0 0, .bool false]) ∧ w = w' := by
  have HL := Lib.hid (unLen p w h)
  clear h
  by_cases hi : i < 0
  · go_enter Tryz.func4, Tryz.ntmps4
    go_wp2_with (first | (go_at_call 6; (with_reducible refine HL.out.mono ?_); rintro e w' ⟨rfl, rfl⟩))
    go_ret2
    exact ⟨rfl, rfl⟩
  · have hi2 : (0 : Int) ≤ i := by omega
    go_enter Tryz.func4, Tryz.ntmps4
    go_wp2_with (first | (go_at_call 6; (with_reducible refine HL.out.mono ?_); rintro e w' ⟨rfl, rfl⟩))
    go_ret2
    exact ⟨rfl, rfl⟩
theorem unAdd (p : Option Addr) (v : Value) (w : World) (h : Unmade p w) : Calls Tryz.prog 8 #[.pointer p, v] w fun e w' => e = .returned (.int .i64 4) ∧ w = w' := by
  rcases h with rfl | ⟨b, rfl, hc, hl⟩
  · go_enter Tryz.func8, Tryz.ntmps8
    go_wp2
    go_ret
    exact ⟨rfl, rfl⟩
  · go_enter Tryz.func8, Tryz.ntmps8
    go_wp2
    go_ret
    exact ⟨rfl, rfl⟩
theorem unBytes (p : Option Addr) (w : World) (h : Unmade p w) : Calls Tryz.prog 7 #[.pointer p] w fun e w' => e = .returned (.slice none 0 0) ∧ Below w.heap.size w w' := by
  have HB := Lib.hid (fun o => (Below.refl w.heap.size w).alloc (Nat.le_refl _) o)
  rcases h with rfl | ⟨b, rfl, hc, hl⟩
  · go_enter Tryz.func7, Tryz.ntmps7
    go_wp2
    go_ret
    exact ⟨rfl, HB.out _⟩
  · go_enter Tryz.func7, Tryz.ntmps7
    go_wp2
    go_ret
    exact ⟨rfl, HB.out _⟩
theorem bEach (p : Option Addr) (w : World) : Calls Tryz.prog 14 #[.pointer p] w fun e w' => e = .returned (.func (.func 24) #[] #[.pointer (some ⟨w.heap.size, 0, none⟩)]) ∧ w' = w.alloc (.cells #[.pointer p] 23) := by
  go_enter Tryz.func14, Tryz.ntmps14
  go_wp2
  go_ret
  exact ⟨rfl, rfl⟩
theorem bAll (p : Option Addr) (w : World) : Calls Tryz.prog 12 #[.pointer p] w fun e w' => e = .returned (.func (.func 22) #[] #[.pointer (some ⟨w.heap.size, 0, none⟩)]) ∧ w' = w.alloc (.cells #[.pointer p] 23) := by
  go_enter Tryz.func12, Tryz.ntmps12
  go_wp2
  go_ret
  exact ⟨rfl, rfl⟩
def encB (x : Nat × Value) : Array Value := #[.int .i64 x.1, x.2]
set_option maxHeartbeats 1000000 in
theorem un_each (l B : Nat) (p : Option Addr) (W : World) (hB : W.cell? ⟨B, 0, none⟩ = some (.pointer p)) (h : Unmade p W) (J Jx : List (Nat × Value) → World → Prop) (hJ0 : J [] W) :
    CallsIn Fence.wide 4 Tryz.prog 24 #[.func (.yield l) #[] #[], .pointer (some ⟨B, 0, none⟩)] W fun e W' => (∃ v, e = .returned v) ∧ ((∃ xs, xs = [] ∧ J xs W') ∨ (∃ pre, (pre ≠ [] ∧ pre <+: []) ∧ Jx pre W')) := by
  have HM := Lib.hid (unLen p W h)
  clear h
  refine callsIn_of_wp Tryz.func24 rfl trivial ?_ rfl
  simp only [Tryz.ntmps24, List.size_toArray, List.length_cons, List.length_nil, Nat.reduceAdd, Nat.reduceSub, Array.replicate_succ, Array.replicate_zero, List.push_toArray, List.append_toArray, List.nil_append, List.cons_append]
  gi_wp2_with (first | (refine ⟨trivial, ?_⟩; gi_at_call 6; refine (callsIn_wide.2 HM.out).mono ?_; rintro e w1 ⟨rfl, rfl⟩))
  gi_loopw [8] (fun i wy => i = .int .i64 0 ∧ Hid (J [] wy)) (fun _ _ => 0)
  case atStart => exact ⟨rfl, Lib.hid hJ0⟩
  case round =>
    obtain ⟨rfl, HJ⟩ := hrel
    gi_wp2
    go_end0
    exact ⟨⟨_, rfl⟩, .inl ⟨_, rfl, HJ.out⟩⟩
theorem bEach_stops {B : Nat} {p : Option Addr} {w1 : World} (hB : w1.cell? ⟨B, 0, none⟩ = some (.pointer p)) (hBl : B < w1.heap.size) (h : Unmade p w1) :
    SeqStopsK Fence.wide 4 Tryz.prog 24 #[.pointer (some ⟨B, 0, none⟩)] encB (fun _ _ => True) (fun xs => xs = []) (fun _ => False) 0 w1 := fun l J Jx W hW _ _ _ h0 => by
  refine (un_each l B p W ((hW.cell (p := ⟨B, 0, none⟩) hBl).trans hB) (h.kept hW) J (fun _ _ => False) h0).mono ?_
  rintro e W' ⟨he, ⟨xs, hx, hJ⟩ | ⟨pre, _, hJ⟩⟩
  · exact ⟨he, .inl ⟨xs, hx, hJ⟩⟩
  · exact hJ.elim
theorem grown_of_below {w w' : World} (h : Below w.heap.size w w') : w.grownBy w' none := ⟨h.os, h.tape, h.output, h.size, fun k hk _ => h.block k hk⟩
theorem below_own {α : Type} (w : World) (B : Nat) (hB : w.heap.size ≤ B) : OwnFrom B (fun (_ : α) W => Below w.heap.size w W) := fun _ _ _ _ h hg hr => h.grown hg h.size (fun k e => by have := (hr k e).1; omega)
set_option maxRecDepth 100000 in
set_option maxHeartbeats 2000000 in
theorem un_all (l B : Nat) (p : Option Addr) (W : World) (hB : W.cell? ⟨B, 0, none⟩ = some (.pointer p)) (hBl : B < W.heap.size) (h : Unmade p W) (J : List (Nat × Value) → World → Prop) (hJA : AbidesFrom W.heap.size J) (hJ0 : J [] W) :
    CallsIn Fence.wide 5 Tryz.prog 22 #[.func (.yield l) #[] #[], .pointer (some ⟨B, 0, none⟩)] W fun e W' => (∃ v, e = .returned v) ∧ ((∃ xs, xs = [] ∧ J xs W') ∨ False) := by
  have HU := Lib.hid h
  have HJ : Hid (∀ W', Below W.heap.size W W' → J [] W') := Lib.hid (fun W' hb => hJA [] W W' none hJ0 (grown_of_below hb) (fun r e => by cases e))
  clear h hJA hJ0
  refine callsIn_of_wp_marks Tryz.func22 rfl trivial ?_ rfl
  simp only [Tryz.ntmps22, List.size_toArray, List.length_cons, List.length_nil, Nat.reduceAdd, Nat.reduceSub, Array.replicate_succ, Array.replicate_zero, List.push_toArray, List.append_toArray, List.nil_append, List.cons_append]
  gi_wp2_with (first | (refine ⟨trivial, ?_⟩; gi_at_call 14; refine (callsIn_wide.2 (bEach _ _)).mono ?_; rintro e w1 ⟨rfl, rfl⟩))
  have hb2 : Below W.heap.size W ((W.alloc (.cells #[.func (.yield l) #[] #[]] 77)).alloc (.cells #[.pointer p] 23)) := ((Below.refl _ _).alloc (Nat.le_refl _) _).alloc (by simp) _
  have HC : Hid (((W.alloc (.cells #[.func (.yield l) #[] #[]] 77)).alloc (.cells #[.pointer p] 23)).cell? ⟨W.heap.size + 1, 0, none⟩ = some (.pointer p) ∧ W.heap.size + 1 < ((W.alloc (.cells #[.func (.yield l) #[] #[]] 77)).alloc (.cells #[.pointer p] 23)).heap.size) := Lib.hid ⟨by simp, by simp⟩
  have HB := Lib.hid hb2
  clear hb2
  generalize (W.alloc (.cells #[.func (.yield l) #[] #[]] 77)).alloc (.cells #[.pointer p] 23) = W0 at HB HC ⊢
  refine wpIn_rangeFunc_ownH rfl (by omega) (gf := 24) (lb := #[.pointer (some ⟨W.heap.size + 1, 0, none⟩)]) (by simp [go_sem]) trivial (enters_of Tryz.func24 (by kernel_rfl) rfl)
    (bEach_stops HC.out.1 HC.out.2 (HU.out.kept HB.out)) (fun _ _ => trivial) (fun _ _ _ _ _ _ _ _ => trivial) (Below.refl _ _) (fun _ => rfl)
    (fun (_ : List (Nat × Value)) W' => Below W.heap.size W W')
    (fun _ _ _ => False)
    (below_own W _ HB.out.size)
    (fun _ _ _ _ _ hs _ _ => hs)
    HB.out
    (fun _ _ _ => True)
    (fun _ _ _ _ _ _ h _ _ => h) ?assign ?body ?done ?stop
  case assign =>
    intro l pre x W K hI hK
    unfold encB
    have H := Lib.hid hK
    clear hK
    gi_wp2
    exact H.out _ _ (keepsFrom_below (Below.refl _ _)) trivial hI trivial
  case body =>
    rintro l pre x a' W _ _ _ _ hlt
    exact absurd hlt (by omega)
  case done =>
    rintro D xs W' hD _ hI hK
    have HI := Lib.hid hI
    have HK := Lib.hid hK
    have HD := Lib.hid (show W.heap.size ≤ D by have := HB.out.size; omega)
    clear hI hK hD
    gi_wp2
    refine ⟨by simp, .inl ⟨_, _, rfl, run_takeDeferred HK.out, ?_⟩⟩
    exact ⟨_, results_none rfl _ _ _, ⟨_, rfl⟩, .inl ⟨[], rfl, HJ.out _ (HI.out.trans (belowK_b (w := W) (Nat.le_refl _) W' D _ _ HD.out HK.out rfl rfl))⟩⟩
  case stop =>
    rintro D c pre W _ _ h _
    exact h.elim
theorem all_stops1 {B : Nat} {p : Option Addr} {w1 : World} (hB : w1.cell? ⟨B, 0, none⟩ = some (.pointer p)) (hBl : B < w1.heap.size) (h : Unmade p w1) :
    SeqStopsK Fence.wide 5 Tryz.prog 22 #[.pointer (some ⟨B, 0, none⟩)] encB (fun _ _ => True) (fun xs => xs = []) (fun _ => False) 0 w1 := fun l J Jx W hW hJ _ _ h0 => by
  refine (un_all l B p W ((hW.cell (p := ⟨B, 0, none⟩) hBl).trans hB) (Nat.lt_of_lt_of_le hBl hW.size) (h.kept hW) J hJ h0).mono ?_
  rintro e W' ⟨he, ⟨xs, hx, hJ⟩ | hJ⟩
  · exact ⟨he, .inl ⟨xs, hx, hJ⟩⟩
  · exact hJ.elim
end Go.Proofs.YtdomglkcfecnnaaGreat
/- Walk: told, of a book that nobody made. -/
namespace Go.Proofs.YtdomglkcfecnnaaGreat
open Go.RowKit Go.Shelf
attribute [local go_sem] Oper.semAt_some
theorem run_equalIn_func_nilB (w : World) (d : Nat) (f : Fn) (a b : Array Value) : (Op.equalIn (d + 1) 48 (.func f a b) .nilFunc).run Tryz.prog w = .ok false w := by
  simp [Op.equalIn, run_underlying Tryz.underlying48]
theorem run_eql_func_nilB (w : World) (f : Fn) (a b : Array Value) : (binOp .eql 48 (.func f a b) .nilFunc).run Tryz.prog w = .ok (.bool false) w := by
  simp only [binOp]
  simp [Op.equal, Op.maxDepth, run_equalIn_func_nilB w 9999 f a b]
/-- The boxes of told. -/
structure TOB (w : World) (W : World) : Prop where
  b9 : Box W (w.heap.size + 3) 3 (.int .i64 0)
  b10 : Box W (w.heap.size + 4) 4 (.bool true)
  bel : Below w.heap.size w W
theorem tob_own {α : Type} (w : World) (B : Nat) (hB : w.heap.size ≤ B) : OwnFrom B (fun (_ : List α) W => TOB w W) := fun _ _ _ _ h hg hr => by
  have hk := cells_grown hg (fun r e => (hr r e).2)
  exact ⟨(hk.2 _ _ h.b9 rfl).trans h.b9, (hk.2 _ _ h.b10 rfl).trans h.b10, h.bel.grown hg h.bel.size (fun k e => by have := (hr k e).1; omega)⟩
/-- The world ahead of told's loop. -/
def W0B (w : World) (n : Int) (p : Option Addr) : World := ((((w.alloc (.cells #[.slice none 0 0] 46)).alloc (.cells #[.int .i64 n] 3)).alloc (.cells #[.pointer p] 23)).alloc (.cells #[.int .i64 0] 3)).alloc (.cells #[.bool true] 4)
theorem w0B (w : World) (n : Int) (p : Option Addr) : TOB w (W0B w n p) ∧ (W0B w n p).cell? ⟨w.heap.size + 2, 0, none⟩ = some (.pointer p) ∧ w.heap.size + 4 < (W0B w n p).heap.size := by
  obtain ⟨A1, hA1⟩ : ∃ A1, A1 = w.alloc (.cells #[.slice none 0 0] 46) := ⟨_, rfl⟩
  obtain ⟨A2, hA2⟩ : ∃ A2, A2 = A1.alloc (.cells #[.int .i64 n] 3) := ⟨_, rfl⟩
  obtain ⟨A3, hA3⟩ : ∃ A3, A3 = A2.alloc (.cells #[.pointer p] 23) := ⟨_, rfl⟩
  obtain ⟨A4, hA4⟩ : ∃ A4, A4 = A3.alloc (.cells #[.int .i64 0] 3) := ⟨_, rfl⟩
  have hW : W0B w n p = A4.alloc (.cells #[.bool true] 4) := by rw [hA4, hA3, hA2, hA1]; rfl
  have z1 : A1.heap.size = w.heap.size + 1 := by rw [hA1]; simp
  have z2 : A2.heap.size = w.heap.size + 2 := by rw [hA2, World.size_alloc, z1]
  have z3 : A3.heap.size = w.heap.size + 3 := by rw [hA3, World.size_alloc, z2]
  have z4 : A4.heap.size = w.heap.size + 4 := by rw [hA4, World.size_alloc, z3]
  have k4 : ∀ j, j < w.heap.size + 3 → A4.heap[j]? = A3.heap[j]? := fun j hj => by rw [hA4]; exact heap_alloc_old _ _ (by omega)
  have k5 : ∀ j, j < w.heap.size + 4 → (A4.alloc (.cells #[.bool true] 4)).heap[j]? = A4.heap[j]? := fun j hj => heap_alloc_old _ _ (by omega)
  rw [hW]
  refine ⟨⟨?_, ?_, ?_⟩, Box.cell (t := 23) ?_, by rw [World.size_alloc]; omega⟩
  · unfold Box; rw [k5 _ (by omega), hA4, ← z3]; exact heap_alloc_new _ _
  · unfold Box; rw [← z4]; exact heap_alloc_new _ _
  · rw [hA4, hA3, hA2, hA1]
    exact (((((Below.refl _ _).alloc (Nat.le_refl _) _).alloc (by simp) _).alloc (by simp; omega) _).alloc (by simp; omega) _).alloc (by simp; omega) _
  · unfold Box; rw [k5 _ (by omega), k4 _ (by omega), hA3, ← z2]; exact heap_alloc_new _ _
set_option maxRecDepth 100000 in
set_option maxHeartbeats 2000000 in
theorem unTold (p : Option Addr) (n : Int) (w : World) (h : Unmade p w) : Calls Tryz.prog 5 #[.pointer p, .slice none 0 0, .int .i64 n] w fun e w' => e = .returned (.tuple #[.int .i64 0, .bool true]) ∧ Below w.heap.size w w' := by
  have hfn := run_eql_func_nilB
  have HU := Lib.hid h
  clear h
  refine (callsIn_wide (n := 6)).1 ?_
  refine callsIn_of_wp_marks Tryz.func5 rfl trivial ?_ rfl
  simp only [Tryz.ntmps5, List.size_toArray, List.length_cons, List.length_nil, Nat.reduceAdd, Nat.reduceSub, Array.replicate_succ, Array.replicate_zero, List.push_toArray, List.append_toArray, List.nil_append, List.cons_append]
  gi_wp2_with (first | (refine ⟨trivial, ?_⟩; gi_at_call 12; refine (callsIn_wide.2 (bAll _ _)).mono ?_; rintro e w1 ⟨rfl, rfl⟩))
  clear hfn
  obtain ⟨h1, h2, h3⟩ := w0B w n p
  unfold W0B at h1 h2 h3
  have HI := Lib.hid h1
  have HC : Hid (_ ∧ _ ∧ _) := Lib.hid ⟨h2, h3, HU.out.kept (below_le h1.bel (Nat.le_refl _))⟩
  clear h1 h2 h3
  simp only [Nat.add_assoc, Nat.reduceAdd]
  generalize ((((w.alloc (.cells #[.slice none 0 0] 46)).alloc (.cells #[.int .i64 n] 3)).alloc (.cells #[.pointer p] 23)).alloc (.cells #[.int .i64 0] 3)).alloc (.cells #[.bool true] 4) = W0 at HI HC ⊢
  refine wpIn_rangeFunc_ownH rfl (by omega) (gf := 22) (lb := #[.pointer (some ⟨w.heap.size + 2, 0, none⟩)]) (by simp [go_sem]) trivial (enters_of Tryz.func22 (by kernel_rfl) rfl)
    (all_stops1 HC.out.1 (by have := HC.out.2.1; omega) HC.out.2.2) (fun _ _ => trivial) (fun _ _ _ _ _ _ _ _ => trivial) (Below.refl _ _) (fun _ => rfl)
    (fun (_ : List (Nat × Value)) W => TOB w W)
    (fun _ _ _ => False)
    (tob_own w _ HI.out.bel.size)
    (fun _ _ _ _ _ hs _ _ => hs)
    HI.out
    (fun _ _ _ => True)
    (fun _ _ _ _ _ _ h _ _ => h) ?assign ?body ?done ?stop
  case assign =>
    intro l pre x W K hI hK
    unfold encB
    have H := Lib.hid hK
    clear hK
    gi_wp2
    exact H.out _ _ (keepsFrom_below (Below.refl _ _)) trivial hI trivial
  case body =>
    rintro l pre x a' W _ _ _ _ hlt
    exact absurd hlt (by omega)
  case done =>
    rintro D xs W hD _ hI hK
    have c9 := hI.b9.cell
    have c10 := hI.b10.cell
    have HB := Lib.hid hI.bel
    have HD := Lib.hid (show w.heap.size ≤ D by have := HC.out.2.1; omega)
    have HK := Lib.hid (show W.drew.heap[D]? = some (.deferred (some [])) from hK)
    clear hI hK hD
    gi_wp2
    gi_region
    gi_wp2
    refine ⟨by simp, .inl ⟨_, _, rfl, run_takeDeferred HK.out, ?_⟩⟩
    exact ⟨_, results_tmp2 rfl _ _ _, rfl, HB.out.drew.trans (belowK_b (w := w) (Nat.le_refl _) _ D _ _ HD.out HK.out rfl rfl)⟩
  case stop =>
    rintro D c pre W _ _ h _
    exact h.elim
end Go.Proofs.YtdomglkcfecnnaaGreat
/- Values that were handed in; StoreNobody: the walk. -/
namespace Go.Proofs.YtdomglkcfecnnaaGreat
open Go Go.RowKit Go.Shelf Go.ChangeShapes Go.WideShapes Go.Deep
attribute [local go_sem] run_store_float
section
variable {H : Type} {enc : TypeId × Value → H} {w : World} {base : Nat} {spare : Nat → Bool} {held : Bool}
theorem trod_floatY {t : TypeId} {fuel : Nat} {cs : List Value} {x : DataW H × List MemPlace} {k : FloatKind} {P : Program} (ht : P.underlying t = some (.float k)) (h : DataW.trod enc P w base spare held fuel t cs = some x) : ∃ n, cs = [.float k n] := by
  cases fuel with
  | zero => simp [DataW.trod] at h
  | succ n =>
    unfold DataW.trod at h
    rw [ht] at h
    split at h <;> simp_all
set_option maxRecDepth 100000 in
set_option maxHeartbeats 4000000 in
theorem v5_of_trod {fuel : Nat} {cs : List Value} {x : DataW H × List MemPlace} (h : DataW.trod enc Tryz.prog w base spare held fuel 62 cs = some x) : ∃ v : V5, v.ok ∧ cs = v.a.toList := by
  obtain ⟨xs, n, _, _, hl, hn, hf⟩ := DataW.trod_struct Tryz.underlying62 h
  have hc : Tryz.prog.cellsOf 62 = 5 := by kernel_rfl
  rw [hc] at hl
  match cs, hl with
  | [v0, v1, v2, v3, v4], _ =>
    have h0 := hf 0 _ rfl
    have h1 := hf 1 _ rfl
    have h2 := hf 2 _ rfl
    have h3 := hf 3 _ rfl
    have h4 := hf 4 _ rfl
    simp only [List.size_toArray, List.length_cons, List.length_nil] at hn
    match xs, hn with
    | [x0, x1, x2, x3, x4], _ =>
      simp only [List.getElem?_cons_zero, List.getElem?_cons_succ] at h0 h1 h2 h3 h4
      obtain ⟨s, e0, _, _⟩ := DataW.trod_string Tryz.underlying9 h0
      obtain ⟨m, e1, _, _⟩ := DataW.trod_int Tryz.underlying3 h1
      obtain ⟨b, e2, _⟩ := DataW.trod_bool Tryz.underlying4 h2
      obtain ⟨fn, e4⟩ := trod_floatY Tryz.underlying60 h4
      cases e0; cases e1; cases e2; cases e4
      rcases open_slice1 Tryz.underlying59 (by kernel_rfl) h3 with ⟨hcs, _⟩ | ⟨a, len, cap, m', n', V, D, Pl, hcs, _, hl, hm, hmm, _, hx⟩
      · cases hcs
        exact ⟨⟨s, m, b, none, 0, 0, fn⟩, ⟨Nat.le_refl _, Nat.zero_le _, fun h => absurd h (Nat.lt_irrefl 0)⟩, rfl⟩
      · cases hcs
        refine ⟨⟨s, m, b, some a, len, cap, fn⟩, ⟨hl, by unfold maxLen at hm; simpa using hm, fun hp => ?_⟩, rfl⟩
        have hp' : 0 < len := hp
        obtain ⟨g, o, spot⟩ := a
        have h0 := (hx 0 (by rw [hmm]; split <;> omega)).1
        have hs := World.cell?_spot h0
        have hsp : spot = none := by simpa [Addr.add] using hs
        subst hsp
        exact ⟨g, o, rfl⟩
set_option maxRecDepth 100000 in
theorem vals_of_arg {r : Reach} {b0 : Nat} {v : Value} {d : DataW H} {p : List MemPlace} (hv : Value.okWide Tryz.prog w r b0 22 v) (h : DataW.Trod enc Tryz.prog w base spare held 22 v d p) :
    ∃ x n cap, v = .slice x n cap ∧ n ≤ 9223372036854775807 ∧ VsA w x n := by
  obtain ⟨a, n, cap, rfl⟩ := okWide_slice Tryz.underlying22 hv
  obtain ⟨fuel, hf⟩ := h
  have hc : Tryz.prog.cellsOf 62 = 5 := by kernel_rfl
  rcases open_slice Tryz.underlying22 (show DataW.trod enc Tryz.prog w base spare held fuel 22 [.slice a n cap] = some _ by simpa [Value.cells] using hf) with ⟨hcs, _⟩ | ⟨a', len, cap', m, nn, D, Pl, hcs, _, hl, hm, hmm, _, hx⟩
  · cases hcs
    exact ⟨none, 0, 0, rfl, by omega, fun h => absurd h (by omega)⟩
  · cases hcs
    rw [hc] at hx
    have hnm : n ≤ m := by rw [hmm]; split <;> omega
    refine ⟨some a', n, cap, rfl, by unfold maxLen at hm; omega, fun hp => ?_⟩
    have one : ∀ i, i < n → ∃ y : V5, y.ok ∧ ∀ j u, y.a[j]? = some u → w.cell? (a'.add (i * 5 + j)) = some u := fun i hi => by
      obtain ⟨cs', g1, g2⟩ := hx i (by omega)
      obtain ⟨y, hy, rfl⟩ := v5_of_trod g2
      obtain ⟨_, hlen, hcell⟩ := World.cells?_some g1
      refine ⟨y, hy, fun j u hu => ?_⟩
      have hj : j < 5 := (Array.getElem?_eq_some_iff.1 hu).1
      have h0 := hcell j hj
      rw [show (a'.add (i * 5)).add j = a'.add (i * 5 + j) by
        unfold Addr.add
        split <;> split <;> simp_all [Nat.add_assoc]] at h0
      rw [h0, ← hu, Array.getElem?_toList]
    obtain ⟨y0, _, hy0⟩ := one 0 hp
    have e0 := hy0 0 _ rfl
    obtain ⟨g, o, spot⟩ := a'
    have hs := World.cell?_spot e0
    have hsp : spot = none := by simpa [Addr.add] using hs
    subst hsp
    refine ⟨g, o, rfl, World.block_lt_of_cell? w _ e0, fun i hi => ?_⟩
    obtain ⟨y, hy, hyc⟩ := one i hi
    have q0 := hyc 0 _ rfl
    have q1 := hyc 1 _ rfl
    have q2 := hyc 2 _ rfl
    have q3 := hyc 3 _ rfl
    have q4 := hyc 4 _ rfl
    rw [Go.WideShapes.add_plain] at q0 q1 q2 q3 q4
    exact ⟨y, hy, q0, q1, q2, q3, q4⟩
end
end Go.Proofs.YtdomglkcfecnnaaGreat
/- Walk: the law StoreNobody. -/
namespace Go.Proofs.YtdomglkcfecnnaaGreat
open Go Go.RowKit Go.Shelf
attribute [local go_sem] run_store_float
/-- The world with the two books that nobody made. -/
def NobS (w : World) : World := (w.alloc (.cells #[.bool false, .string ⟨#[]⟩, .slice none 0 0, .slice none 0 0, .int .i64 0, .slice none 0 0] 30)).alloc (.cells #[.pointer none, .pointer (some ⟨w.heap.size, 0, none⟩)] 23)
theorem nobS_size (w : World) : (NobS w).heap.size = w.heap.size + 2 := by simp [NobS]
theorem nobS_below (w : World) : Below w.heap.size w (NobS w) := ((Below.refl _ _).alloc (Nat.le_refl _) _).alloc (by simp) _
theorem nobS_cells {w W : World} (h : Below (w.heap.size + 2) (NobS w) W) : W.cell? ⟨w.heap.size + 1, 0, none⟩ = some (.pointer none) ∧ W.cell? ⟨w.heap.size + 1, 1, none⟩ = some (.pointer (some ⟨w.heap.size, 0, none⟩)) ∧ Unmade (some ⟨w.heap.size, 0, none⟩) W := by
  have h1 := h.block (w.heap.size + 1) (by omega)
  have h0 := h.block w.heap.size (by omega)
  have e1 : (NobS w).heap[w.heap.size + 1]? = some (.cells #[.pointer none, .pointer (some ⟨w.heap.size, 0, none⟩)] 23 (0, 0)) := alloc_new1 w _ _
  have e0 : (NobS w).heap[w.heap.size]? = some (.cells #[.bool false, .string ⟨#[]⟩, .slice none 0 0, .slice none 0 0, .int .i64 0, .slice none 0 0] 30 (0, 0)) := (heap_alloc_old _ _ (by simp)).trans (heap_alloc_new _ _)
  rw [e1] at h1
  rw [e0] at h0
  refine ⟨by simp [World.cell?, h1], by simp [World.cell?, h1], .inr ⟨w.heap.size, rfl, by simp [World.cell?, h0], (Array.getElem?_eq_some_iff.1 h0).1⟩⟩
theorem nobS_step {w W W' : World} {p : Option Addr} (h : Unmade p W ∧ Below (w.heap.size + 2) (NobS w) W) (hb : Below W.heap.size W W') : Unmade p W' ∧ Below (w.heap.size + 2) (NobS w) W' :=
  ⟨h.1.kept hb, h.2.trans (below_le hb (by have := h.2.size; rw [nobS_size] at this; exact this))⟩
set_option maxRecDepth 100000 in
set_option maxHeartbeats 4000000 in
theorem nobodyS_any (x : Option Addr) (n cap : Nat) (at_ : Int) (w : World) (hx : VsA w x n) (hm : n ≤ 9223372036854775807) : Calls Tryz.prog 3 #[.slice x n cap, .int .i64 at_] w fun e w' => e = .returned (.bool true) ∧ Below w.heap.size w w' := by
  have HB0 := Lib.hid (nobS_below w)
  have HSZ := Lib.hid (nobS_size w)
  have HF : Hid (∀ W, Below w.heap.size w W → Calls Tryz.prog 9 #[.slice x n cap] W (GivesV W)) := Lib.hid (fun W hb => bFew x n cap W (hx.below hb) hm)
  clear hx hm
  go_enter Tryz.func3, Tryz.ntmps3
  go_wp2
  obtain ⟨W0, hW0⟩ : ∃ W0, W0 = NobS w := ⟨_, rfl⟩
  have HW0 := Lib.hid hW0
  unfold NobS at hW0
  rw [← hW0]
  clear hW0
  go_loopw [7] (fun i wr => ∃ k : Nat, k ≤ 2 ∧ i = .int .i64 k ∧ Hid (Below (w.heap.size + 2) (NobS w) wr)) (fun i _ => 2 - (intOf i).toNat)
  case atStart => exact ⟨0, by omega, rfl, Lib.hid (by rw [HW0.out]; exact Below.refl _ _)⟩
  case round =>
    obtain ⟨k, hk, rfl, HR⟩ := hrel
    by_cases hlt : k < 2
    · obtain ⟨p, hp⟩ : ∃ p, wr.cell? ⟨w.heap.size + 1, k, none⟩ = some (.pointer p) ∧ Unmade p wr := by
        obtain ⟨h1, h2, h3⟩ := nobS_cells HR.out
        have : k = 0 ∨ k = 1 := by omega
        rcases this with rfl | rfl
        · exact ⟨_, h1, .inl rfl⟩
        · exact ⟨_, h2, h3⟩
      have cp := hp.1
      have H0 : Hid (Unmade p wr ∧ Below (w.heap.size + 2) (NobS w) wr) := Lib.hid ⟨hp.2, HR.out⟩
      clear hp HR
      have i1 : (0 : Int) ≤ (k : Int) := by omega
      have i2 : (k : Int) < 2 := by omega
      go_wp2_with (first | (go_at_call 4; fail))
      go_at_call 4
      refine (unRecord p at_ _ H0.out.1).mono ?_
      rintro e w' ⟨rfl, rfl⟩
      clear cp
      go_wp2_with (first | (go_at_call 5; fail))
      go_at_call 5
      refine (unTold p 3 _ H0.out.1).mono ?_
      rintro e w1 ⟨rfl, hb⟩
      have H1 := Lib.hid (nobS_step H0.out hb)
      clear hb H0
      go_wp2_with (first | (go_at_call 6; fail))
      go_at_call 6
      refine (unLen p _ H1.out.1).mono ?_
      rintro e w' ⟨rfl, rfl⟩
      go_wp2_with (first | (go_at_call 7; fail))
      go_at_call 7
      refine (unBytes p _ H1.out.1).mono ?_
      rintro e w2 ⟨rfl, hb⟩
      have H2 := Lib.hid (nobS_step H1.out hb)
      clear hb H1
      go_wp2_with (first | (go_at_call 9; fail))
      go_at_call 9
      refine (HF.out _ (HB0.out.trans (below_le H2.out.2 (by omega)))).mono ?_
      rintro e w3 ⟨⟨vv, rfl⟩, hb⟩
      have H3 := Lib.hid (nobS_step H2.out hb)
      clear hb H2
      go_wp2_with (first | (go_at_call 8; fail))
      go_at_call 8
      refine (unAdd p vv _ H3.out.1).mono ?_
      rintro e w' ⟨rfl, rfl⟩
      go_wp2
      go_roundw
      case rel => exact ⟨k + 1, by omega, by go_num, Lib.hid H3.out.2⟩
      case measure => simp [intOf]; omega
    · obtain rfl : k = 2 := by omega
      have HWK := Lib.hid (fun W => wawakeS W)
      go_wp2_with (first | (go_at_call 10; fail))
      go_at_call 10
      refine (HWK.out _).mono ?_
      rintro e w9 ⟨rfl, hb⟩
      have HB9 := Lib.hid (HB0.out.trans ((below_le HR.out (by omega)).trans (below_le hb (by have := HR.out.size; rw [HSZ.out] at this; omega))))
      clear hb
      go_wp2
      go_ret
      exact ⟨rfl, HB9.out⟩
end Go.Proofs.YtdomglkcfecnnaaGreat
