/- Own texts, merged: YD, YE. -/
import Derived.Test.YtdomglkcfecnnaaGreatMP42
import Derived.Test.YtdomglkcfecnnaaGreatShelfC
import Derived.Test.YtdomglkcfecnnaaGreatMP44
import Derived.Test.YtdomglkcfecnnaaGreatMP45
/- Walks: fits, of the page's example. -/
namespace Go.Proofs.YtdomglkcfecnnaaGreat
open Go Go.RowKit Go.Shelf
attribute [local go_sem] run_store_float
/-- The entry's variable. -/
def ENB (W : World) (b g cc : Nat) : Prop := W.heap[b]? = some (.cells #[.int .u8 5, .string ⟨#[97]⟩, .slice (some ⟨g, 5, none⟩) 1 cc] 76 (0, 0))
theorem yieldsFG {ops : Array Oper} {S : World → Prop} {o : Oper} {a : Act} {b q : Nat} {F : FL} {x : Operand} (hw : Region.wanted o (yielded ops a.tmps) = true) (ho : o.op = .load 66 x) (hx : a.eval x = .pointer (some ⟨b, q, none⟩)) (hS : ∀ w, S w → FLC w b q F) : YieldsIf Tryz.prog ops S o F.v a :=
  .inl ⟨hw, fun w hw => by
    unfold execOp
    simp only [ho, hx, Instr.loadAt, Instr.sureAddr, Sem.run_bind, Sem.run_pure, Result.andThen_ok, run_ldF (hS w hw)]⟩
set_option maxRecDepth 100000 in
set_option maxHeartbeats 4000000 in
theorem exFits1 (b1 b2 b3 g cc : Nat) (w : World) (h1 : FLB w b1 exBL) (h2 : ENB w b2 g cc) (h3 : VLBx w b3 (.string ⟨#[]⟩) (.int .i64 0) (.bool false) (.slice none 0 0) (.float .f64 0)) (hg : g < w.heap.size) (hc : 1 < cc) (hm : cc ≤ 9223372036854775807) (hb : w.cell? ⟨g, 5, none⟩ = some (.int .u8 1)) :
    Calls Tryz.prog 41 #[.pointer (some ⟨b1, 0, none⟩), .pointer (some ⟨b2, 0, none⟩), .pointer (some ⟨b3, 0, none⟩)] w fun e w' => e = .returned (.tuple #[]) ∧ VLBx w' b3 (.string ⟨#[]⟩) (.int .i64 0) (.bool true) (.slice none 0 0) (.float .f64 0) ∧ But [b3] w w' := by
  have HF : Hid (FLC w b1 0 exBL) := Lib.hid h1.flc
  have k2 : w.cell? ⟨b2, 2, none⟩ = some (.slice (some ⟨g, 5, none⟩) 1 cc) := by unfold ENB at h2; simp [World.cell?, h2]
  have HR := Lib.hid (exRaw exBL rfl g 5 cc w hg hc hm hb)
  have HV := Lib.hid h3
  clear h1 h2 h3 hc hm hb
  go_enter Tryz.func41, Tryz.ntmps41
  go_wp2_with (first | ((with_reducible refine wpList_ldF (F := exBL) (b := b1) (q := 0) rfl rfl ?_ HF.out ?_); rfl) | (go_at_call 42; fail))
  go_at_call 42
  refine HR.out.mono ?_
  rintro e w1 ⟨rfl, hb1⟩
  have hv1 : VLBx w1 b3 (.string ⟨#[]⟩) (.int .i64 0) (.bool false) (.slice none 0 0) (.float .f64 0) := (hb1.block _ HV.out.cells.2.2.2.2.2.2).trans HV.out
  have HV1 := Lib.hid hv1
  have HB1 := Lib.hid hb1
  obtain ⟨v0, v1, v2, v3, v4, vf, vl⟩ := hv1.cells
  have f0 := vf 0
  have f1 := vf 1
  have f2 := vf 2
  have f3 := vf 3
  have f4 := vf 4
  unfold exVa
  clear hb1 hv1 vf
  go_wp2_with fail
  go_end0
  exact ⟨rfl, putV5_blk HV1.out _ _ _ _ _, (((((But.of HB1.out).set _ _ (by simp)).set _ _ (by simp)).set _ _ (by simp)).set _ _ (by simp)).set _ _ (by simp)⟩
/-- The four variables of fits. -/
structure FTI (w : World) (g cc : Nat) (W : World) : Prop where
  f : FLB W w.heap.size exBL
  e : ENB W (w.heap.size + 1) g cc
  r : VLBx W (w.heap.size + 2) (.string ⟨#[]⟩) (.int .i64 0) (.bool false) (.slice none 0 0) (.float .f64 0)
  bel : Below w.heap.size w W
  sz : w.heap.size + 4 ≤ W.heap.size
theorem FTI.but {w : World} {g cc : Nat} {W W' : World} {l : List Nat} (h : FTI w g cc W) (hb : But l W W') (h0 : w.heap.size ∉ l) (h1 : w.heap.size + 1 ∉ l) (h2 : w.heap.size + 2 ∉ l) (hl : ∀ j, j ∈ l → w.heap.size ≤ j) : FTI w g cc W' :=
  ⟨hb.heap h.f h0, hb.heap h.e h1, hb.heap h.r h2, h.bel.trans (hb.toBelow h.bel.size hl), Nat.le_trans h.sz hb.size⟩
/-- The world ahead of fits' try. -/
def ftW (w : World) (g cc : Nat) : World := (((w.alloc (.cells exBL.a 66)).alloc (.cells #[.int .u8 5, .string ⟨#[97]⟩, .slice (some ⟨g, 5, none⟩) 1 cc] 76)).alloc (.cells #[.string ⟨#[]⟩, .int .i64 0, .bool false, .slice none 0 0, .float .f64 0] 62)).alloc (.cells #[.string ⟨#[]⟩, .int .i64 0, .bool false, .slice none 0 0, .float .f64 0] 62)
theorem ftW_ok (w : World) (g cc : Nat) : FTI w g cc (ftW w g cc) ∧ VLBx (ftW w g cc) (w.heap.size + 3) (.string ⟨#[]⟩) (.int .i64 0) (.bool false) (.slice none 0 0) (.float .f64 0) ∧ (ftW w g cc).heap.size = w.heap.size + 4 := by
  obtain ⟨A1, hA1⟩ : ∃ A1, A1 = w.alloc (.cells exBL.a 66) := ⟨_, rfl⟩
  obtain ⟨A2, hA2⟩ : ∃ A2, A2 = A1.alloc (.cells #[.int .u8 5, .string ⟨#[97]⟩, .slice (some ⟨g, 5, none⟩) 1 cc] 76) := ⟨_, rfl⟩
  obtain ⟨A3, hA3⟩ : ∃ A3, A3 = A2.alloc (.cells #[.string ⟨#[]⟩, .int .i64 0, .bool false, .slice none 0 0, .float .f64 0] 62) := ⟨_, rfl⟩
  have hW : ftW w g cc = A3.alloc (.cells #[.string ⟨#[]⟩, .int .i64 0, .bool false, .slice none 0 0, .float .f64 0] 62) := by rw [hA3, hA2, hA1]; rfl
  have z1 : A1.heap.size = w.heap.size + 1 := by rw [hA1]; simp
  have z2 : A2.heap.size = w.heap.size + 2 := by rw [hA2, World.size_alloc, z1]
  have z3 : A3.heap.size = w.heap.size + 3 := by rw [hA3, World.size_alloc, z2]
  have k2 : ∀ j, j < w.heap.size + 1 → A2.heap[j]? = A1.heap[j]? := fun j hj => by rw [hA2]; exact heap_alloc_old _ _ (by omega)
  have k3 : ∀ j, j < w.heap.size + 2 → A3.heap[j]? = A2.heap[j]? := fun j hj => by rw [hA3]; exact heap_alloc_old _ _ (by omega)
  have k4 : ∀ j, j < w.heap.size + 3 → (A3.alloc (.cells #[.string ⟨#[]⟩, .int .i64 0, .bool false, .slice none 0 0, .float .f64 0] 62)).heap[j]? = A3.heap[j]? := fun j hj => heap_alloc_old _ _ (by omega)
  rw [hW]
  refine ⟨⟨?_, ?_, ?_, ?_, by rw [World.size_alloc]; omega⟩, ?_, by rw [World.size_alloc]; omega⟩
  · unfold FLB; rw [k4 _ (by omega), k3 _ (by omega), k2 _ (by omega), hA1]; exact heap_alloc_new _ _
  · unfold ENB; rw [k4 _ (by omega), k3 _ (by omega), hA2, ← z1]; exact heap_alloc_new _ _
  · unfold VLBx; rw [k4 _ (by omega), hA3, ← z2]; exact heap_alloc_new _ _
  · rw [hA3, hA2, hA1]
    exact ((((Below.refl _ _).alloc (Nat.le_refl _) _).alloc (by simp) _).alloc (by simp; omega) _).alloc (by simp; omega) _
  · unfold VLBx; rw [← z3]; exact heap_alloc_new _ _
theorem fits_try {w W1 : World} {g cc : Nat} (h : FTI w g cc W1 ∧ VLBx W1 (w.heap.size + 3) (.string ⟨#[]⟩) (.int .i64 0) (.bool false) (.slice none 0 0) (.float .f64 0) ∧ W1.heap.size = w.heap.size + 4) (hg : g < w.heap.size) (hc : 1 < cc) (hm : cc ≤ 9223372036854775807) (hb : w.cell? ⟨g, 5, none⟩ = some (.int .u8 1)) :
    Calls Tryz.prog 36 #[.func (.func 41) #[] #[.pointer (some ⟨w.heap.size, 0, none⟩), .pointer (some ⟨w.heap.size + 1, 0, none⟩), .pointer (some ⟨w.heap.size + 3, 0, none⟩)]] W1 fun e w' => e = .returned (.bool true) ∧ FTI w g cc w' ∧ VLBx w' (w.heap.size + 3) (.string ⟨#[]⟩) (.int .i64 0) (.bool true) (.slice none 0 0) (.float .f64 0) := by
  obtain ⟨h1, h2, h3⟩ := h
  have hal : Below W1.heap.size W1 (W1.alloc (.cells #[.bool false] 4)) := (Below.refl _ _).alloc (Nat.le_refl _) _
  have hF : FTI w g cc (W1.alloc (.cells #[.bool false] 4)) := h1.but (But.of (l := []) hal) (by simp) (by simp) (by simp) (by simp)
  refine (tryF _ _ _ W1 (fun w' => VLBx w' (w.heap.size + 3) (.string ⟨#[]⟩) (.int .i64 0) (.bool true) (.slice none 0 0) (.float .f64 0) ∧ But [w.heap.size + 3] (W1.alloc (.cells #[.bool false] 4)) w') ?_ ?_).mono ?_
  · exact exFits1 w.heap.size (w.heap.size + 1) (w.heap.size + 3) g cc _ hF.f hF.e ((heap_alloc_old _ _ (by omega)).trans h2) (Nat.lt_of_lt_of_le hg hF.bel.size) hc hm ((hF.bel.cell (p := ⟨g, 5, none⟩) hg).trans hb)
  · rintro w' ⟨_, hb⟩
    exact hb.heap (heap_alloc_new _ _) (by simp; omega)
  · rintro e w' ⟨rfl, w2, ⟨hv, hb⟩, rfl⟩
    have hF2 : FTI w g cc w2 := hF.but hb (by simp) (by simp) (by simp) (by simp)
    refine ⟨rfl, hF2.but ((But.refl [W1.heap.size] _).set _ _ (by simp)) (by simp; omega) (by simp; omega) (by simp; omega) (by simp; omega), (set_other (by omega)).trans hv⟩
set_option maxRecDepth 100000 in
set_option maxHeartbeats 8000000 in
theorem exFits (g cc : Nat) (w : World) (hg : g < w.heap.size) (hc : 1 < cc) (hm : cc ≤ 9223372036854775807) (hb : w.cell? ⟨g, 5, none⟩ = some (.int .u8 1)) :
    Calls Tryz.prog 21 #[exBL.v, .agg #[.int .u8 5, .string ⟨#[97]⟩, .slice (some ⟨g, 5, none⟩) 1 cc]] w fun e w' => e = .returned (.tuple #[.agg exVa, .bool true]) ∧ Below w.heap.size w w' := by
  have HG := Lib.hid hg
  have HB := Lib.hid hb
  have HM := Lib.hid (And.intro hc hm)
  have HK := Lib.hid (ftW_ok w g cc)
  have hmf : ∀ (fn : Fn) (first cap : Array Value) (w : World), (Instr.makeFunc fn first cap).run Tryz.prog w = .ok (.func fn first cap) w := fun _ _ _ _ => rfl
  clear hb hc hm hg
  unfold FL.v
  unfold ftW at HK
  unfold exBL Fld.fl exB FL.a
  unfold exBL Fld.fl exB FL.a at HK
  dsimp only [List.length_nil] at HK ⊢
  rw [show tx [97] = (⟨#[97]⟩ : ByteArray) from rfl] at HK ⊢
  go_enter Tryz.func21, Tryz.ntmps21
  go_wp2_with (first | (go_at_call 36; fail))
  refine (fits_try HK.out HG.out HM.out.1 HM.out.2 HB.out).mono ?_
  rintro e w5 ⟨rfl, hf5, hv5⟩
  have HF5 := Lib.hid hf5
  have HV5 := Lib.hid hv5
  clear hf5 hv5 HK hmf
  go_upto_region 5 with fail
  have HSC : Hid (∀ W, Below w5.heap.size w5 W → FLC W w.heap.size 0 exBL ∧ W.cell? ⟨w.heap.size + 1, 2, none⟩ = some (.slice (some ⟨g, 5, none⟩) 1 cc) ∧ W.cell? ⟨w.heap.size + 3, 0, none⟩ = some (.string ⟨#[]⟩) ∧ W.cell? ⟨w.heap.size + 3, 1, none⟩ = some (.int .i64 0) ∧ W.cell? ⟨w.heap.size + 3, 2, none⟩ = some (.bool true) ∧ W.cell? ⟨w.heap.size + 3, 3, none⟩ = some (.slice none 0 0) ∧ W.cell? ⟨w.heap.size + 3, 4, none⟩ = some (.float .f64 0)) := Lib.hid (fun W hW => by
    have hv : VLBx W (w.heap.size + 3) (.string ⟨#[]⟩) (.int .i64 0) (.bool true) (.slice none 0 0) (.float .f64 0) := (hW.block _ HV5.out.cells.2.2.2.2.2.2).trans HV5.out
    obtain ⟨v0, v1, v2, v3, v4, _⟩ := hv.cells
    have he : ENB W (w.heap.size + 1) g cc := (hW.block _ (Array.getElem?_eq_some_iff.1 HF5.out.e).1).trans HF5.out.e
    refine ⟨(HF5.out.f.below hW).flc, ?_, v0, v1, v2, v3, v4⟩
    unfold ENB at he
    simp [World.cell?, he])
  have HS0 := Lib.hid (HSC.out _ (Below.refl _ _).drew)
  have HVA := Lib.hid (fun W => exValue W)
  unfold exVa at HVA
  have HEQ : Hid (∀ (b : Nat) (W : World), Lib.BytesIn W (some ⟨b, 0, none⟩) 1 [1] → Below w5.heap.size w5 W → Calls Tryz.prog 35 #[.slice (some ⟨b, 0, none⟩) 1 1, .slice (some ⟨g, 5, none⟩) 1 cc] W fun e w' => e = .returned (.bool true) ∧ w' = W) := Lib.hid (fun b W h1 h2 => by
    have h := Tryz.bytes_Equal_all (some ⟨b, 0, none⟩) (some ⟨g, 5, none⟩) 1 1 1 cc [1] [1] W rfl rfl h1 (fun _ => ⟨g, 5, rfl, fun i hi => by
      obtain rfl : i = 0 := by omega
      exact (h2.cell (p := ⟨g, 5, none⟩) (Nat.lt_of_lt_of_le HG.out HF5.out.bel.size)).trans ((HF5.out.bel.cell (p := ⟨g, 5, none⟩) HG.out).trans HB.out)⟩)
    rw [beq_self_eq_true] at h
    exact h)
  refine wp_region_held (S := (fun W => FLC W w.heap.size 0 exBL ∧ W.cell? ⟨w.heap.size + 1, 2, none⟩ = some (.slice (some ⟨g, 5, none⟩) 1 cc) ∧ W.cell? ⟨w.heap.size + 3, 0, none⟩ = some (.string ⟨#[]⟩) ∧ W.cell? ⟨w.heap.size + 3, 1, none⟩ = some (.int .i64 0) ∧ W.cell? ⟨w.heap.size + 3, 2, none⟩ = some (.bool true) ∧ W.cell? ⟨w.heap.size + 3, 3, none⟩ = some (.slice none 0 0) ∧ W.cell? ⟨w.heap.size + 3, 4, none⟩ = some (.float .f64 0))) (by as_aux_lemma => kernel_rfl) ?_
  change wpAnyH _ _ _ _ _ _ _ _ (World.drew _)
  refine wpAnyH_take (i := 0) (v := _) rfl (by as_aux_lemma => kernel_rfl) (by as_aux_lemma => kernel_rfl) (by as_aux_lemma => kernel_rfl) (fun _ _ _ h => h) (Or.inl ⟨by rfl, by intro w hSw; (try dsimp only at hSw); go_simp; try (with_reducible rfl)⟩) HS0.out ?_
  try simp only [Act.put, List.setIfInBounds_toArray, List.set_cons_zero, List.set_cons_succ, List.getElem_toArray, List.getElem_cons_zero]
  refine wpAnyH_take (i := 1) (v := _) rfl (by as_aux_lemma => kernel_rfl) (by as_aux_lemma => kernel_rfl) (by as_aux_lemma => kernel_rfl) (fun _ _ _ h => h) (Or.inl ⟨by rfl, by intro w hSw; (try dsimp only at hSw); go_simp; try (with_reducible rfl)⟩) HS0.out ?_
  try simp only [Act.put, List.setIfInBounds_toArray, List.set_cons_zero, List.set_cons_succ, List.getElem_toArray, List.getElem_cons_succ, List.getElem_cons_zero]
  refine wpAnyH_take (i := 2) (v := _) rfl (by as_aux_lemma => kernel_rfl) (by as_aux_lemma => kernel_rfl) (by as_aux_lemma => kernel_rfl) (fun _ _ _ h => h) (Or.inl ⟨by rfl, by intro w hSw; (try dsimp only at hSw); go_simp; try (with_reducible rfl)⟩) HS0.out ?_
  try simp only [Act.put, List.setIfInBounds_toArray, List.set_cons_zero, List.set_cons_succ, List.getElem_toArray, List.getElem_cons_succ, List.getElem_cons_zero]
  refine wpAnyH_take (i := 3) (v := exBL.v) rfl (by as_aux_lemma => kernel_rfl) (by as_aux_lemma => kernel_rfl) (by as_aux_lemma => kernel_rfl) (fun _ _ _ h => h) (yieldsFG (by rfl) rfl rfl (fun w h => h.1)) HS0.out ?_
  try simp only [Act.put, List.setIfInBounds_toArray, List.set_cons_zero, List.set_cons_succ, List.getElem_toArray, List.getElem_cons_succ, List.getElem_cons_zero]
  refine wpAnyH_take (i := 4) (v := _) rfl (by as_aux_lemma => kernel_rfl) (by as_aux_lemma => kernel_rfl) (by as_aux_lemma => kernel_rfl) (fun _ _ _ h => h) (Or.inl ⟨by rfl, by intro w hSw; (try dsimp only at hSw); go_simp; try (with_reducible rfl)⟩) HS0.out ?_
  try simp only [Act.put, List.setIfInBounds_toArray, List.set_cons_zero, List.set_cons_succ, List.getElem_toArray, List.getElem_cons_succ, List.getElem_cons_zero]
  refine wpAnyH_ready (rs := [5]) (by as_aux_lemma => kernel_rfl) (by simp) ?_
  refine AllReadyH.cons rfl (fun K hK => ?_) AllReadyH.nil
  go_simp
  go_at_call 26
  refine (HVA.out _).mono ?_
  rintro e w6 ⟨rfl, hb6⟩
  have HB6 : Hid (Below w5.heap.size w5 w6) := Lib.hid ((Below.refl _ _).drew.trans hb6)
  have HS6 := Lib.hid (HSC.out _ HB6.out)
  clear hb6
  refine hK.out _ _ HS6.out (fun _ => ?_)
  clear hK K
  try simp only [Act.put, List.setIfInBounds_toArray, List.set_cons_zero, List.set_cons_succ, List.getElem_toArray, List.getElem_cons_succ, List.getElem_cons_zero]
  refine wpAnyH_take (i := 6) (v := _) rfl (by as_aux_lemma => kernel_rfl) (by as_aux_lemma => kernel_rfl) (by as_aux_lemma => kernel_rfl) (fun _ _ _ h => h) (Or.inl ⟨by rfl, by intro w hSw; (try dsimp only at hSw); go_simp; try (with_reducible rfl)⟩) HS6.out ?_
  try simp only [Act.put, List.setIfInBounds_toArray, List.set_cons_zero, List.set_cons_succ, List.getElem_toArray, List.getElem_cons_succ, List.getElem_cons_zero]
  refine wpAnyH_take (i := 7) (v := _) rfl (by as_aux_lemma => kernel_rfl) (by as_aux_lemma => kernel_rfl) (by as_aux_lemma => kernel_rfl) (fun _ _ _ h => h) (Or.inl ⟨by rfl, by intro w hSw; (try dsimp only at hSw); go_simp; try (with_reducible rfl)⟩) HS6.out ?_
  try simp only [Act.put, List.setIfInBounds_toArray, List.set_cons_zero, List.set_cons_succ, List.getElem_toArray, List.getElem_cons_succ, List.getElem_cons_zero]
  refine wpAnyH_take (i := 8) (v := _) rfl (by as_aux_lemma => kernel_rfl) (by as_aux_lemma => kernel_rfl) (by as_aux_lemma => kernel_rfl) (fun _ _ _ h => h) (Or.inl ⟨by rfl, by intro w hSw; (try dsimp only at hSw); go_simp; try (with_reducible rfl)⟩) HS6.out ?_
  try simp only [Act.put, List.setIfInBounds_toArray, List.set_cons_zero, List.set_cons_succ, List.getElem_toArray, List.getElem_cons_succ, List.getElem_cons_zero]
  refine wpAnyH_take (i := 9) (v := exBL.v) rfl (by as_aux_lemma => kernel_rfl) (by as_aux_lemma => kernel_rfl) (by as_aux_lemma => kernel_rfl) (fun _ _ _ h => h) (yieldsFG (by rfl) rfl rfl (fun w h => h.1)) HS6.out ?_
  try simp only [Act.put, List.setIfInBounds_toArray, List.set_cons_zero, List.set_cons_succ, List.getElem_toArray, List.getElem_cons_succ, List.getElem_cons_zero]
  refine wpAnyH_take (i := 10) (v := _) rfl (by as_aux_lemma => kernel_rfl) (by as_aux_lemma => kernel_rfl) (by as_aux_lemma => kernel_rfl) (fun _ _ _ h => h) (Or.inl ⟨by rfl, by intro w hSw; (try dsimp only at hSw); go_simp; try (with_reducible rfl)⟩) HS6.out ?_
  try simp only [Act.put, List.setIfInBounds_toArray, List.set_cons_zero, List.set_cons_succ, List.getElem_toArray, List.getElem_cons_succ, List.getElem_cons_zero]
  refine wpAnyH_take (i := 12) (v := _) rfl (by as_aux_lemma => kernel_rfl) (by as_aux_lemma => kernel_rfl) (by as_aux_lemma => kernel_rfl) (fun _ _ _ h => h) (Or.inl ⟨by rfl, by intro w hSw; (try dsimp only at hSw); go_simp; try (with_reducible rfl)⟩) HS6.out ?_
  try simp only [Act.put, List.setIfInBounds_toArray, List.set_cons_zero, List.set_cons_succ, List.getElem_toArray, List.getElem_cons_succ, List.getElem_cons_zero]
  refine wpAnyH_take (i := 13) (v := _) rfl (by as_aux_lemma => kernel_rfl) (by as_aux_lemma => kernel_rfl) (by as_aux_lemma => kernel_rfl) (fun _ _ _ h => h) (Or.inl ⟨by rfl, by intro w hSw; (try dsimp only at hSw); go_simp; try (with_reducible rfl)⟩) HS6.out ?_
  try simp only [Act.put, List.setIfInBounds_toArray, List.set_cons_zero, List.set_cons_succ, List.getElem_toArray, List.getElem_cons_succ, List.getElem_cons_zero]
  refine wpAnyH_ready (rs := [11]) (by as_aux_lemma => kernel_rfl) (by simp) ?_
  refine AllReadyH.cons rfl (fun K hK => ?_) AllReadyH.nil
  go_simp
  go_at_call 27
  refine (bValue exBL rfl _).mono ?_
  rintro e w7 ⟨rfl, hw7⟩
  have HB7 : Hid (Below w5.heap.size w5 w7) := Lib.hid (HB6.out.trans (by rw [hw7]; exact below_le (vW_below w6) HB6.out.size))
  have HS7 := Lib.hid (HSC.out _ HB7.out)
  have HY7 : Hid (Lib.BytesIn w7 (some ⟨w6.heap.size + 2, 0, none⟩) 1 [1]) := Lib.hid (fun _ => ⟨w6.heap.size + 2, 0, rfl, fun i hi => by
    obtain rfl : i = 0 := by omega
    rw [hw7]; exact vW_new w6⟩)
  clear hw7
  refine hK.out _ _ HS7.out (fun _ => ?_)
  clear hK K
  try simp only [Act.put, List.setIfInBounds_toArray, List.set_cons_zero, List.set_cons_succ, List.getElem_toArray, List.getElem_cons_succ, List.getElem_cons_zero]
  refine wpAnyH_ready (rs := [14]) (by as_aux_lemma => kernel_rfl) (by simp) ?_
  refine AllReadyH.cons rfl (fun K hK => ?_) AllReadyH.nil
  go_simp
  go_at_call 35
  refine (HEQ.out _ _ HY7.out HB7.out).mono ?_
  rintro e w8 ⟨rfl, rfl⟩
  refine hK.out _ _ HS7.out (fun _ => ?_)
  clear hK K
  try simp only [Act.put, List.setIfInBounds_toArray, List.set_cons_zero, List.set_cons_succ, List.getElem_toArray, List.getElem_cons_succ, List.getElem_cons_zero]
  refine wpAnyH_take (i := 15) (v := _) rfl (by as_aux_lemma => kernel_rfl) (by as_aux_lemma => kernel_rfl) (by as_aux_lemma => kernel_rfl) (fun _ _ _ h => h) (Or.inl ⟨by rfl, by intro w hSw; (try dsimp only at hSw); go_simp; try (with_reducible rfl)⟩) HS7.out ?_
  try simp only [Act.put, List.setIfInBounds_toArray, List.set_cons_zero, List.set_cons_succ, List.getElem_toArray, List.getElem_cons_succ, List.getElem_cons_zero]
  refine wpAnyH_take (i := 16) (v := _) rfl (by as_aux_lemma => kernel_rfl) (by as_aux_lemma => kernel_rfl) (by as_aux_lemma => kernel_rfl) (fun _ _ _ h => h) (Or.inl ⟨by rfl, by intro w hSw; (try dsimp only at hSw); go_simp; try (with_reducible rfl)⟩) HS7.out ?_
  try simp only [Act.put, List.setIfInBounds_toArray, List.set_cons_zero, List.set_cons_succ, List.getElem_toArray, List.getElem_cons_succ, List.getElem_cons_zero]
  refine wpAnyH_done (by as_aux_lemma => kernel_rfl) ?_ _
  have hr8 : VLBx w8 (w.heap.size + 2) (.string ⟨#[]⟩) (.int .i64 0) (.bool false) (.slice none 0 0) (.float .f64 0) := (HB7.out.block _ (by have := HF5.out.sz; omega)).trans HF5.out.r
  have HR8 := Lib.hid hr8
  obtain ⟨_, _, c0, c1, c2, c3, c4⟩ := HS7.out
  obtain ⟨r0, r1, r2, r3, r4, rf, rl⟩ := hr8.cells
  have f0 := rf 0
  have f1 := rf 1
  have f2 := rf 2
  have f3 := rf 3
  have f4 := rf 4
  clear hr8 rf HSC HS0 HS6 HVA HEQ HY7
  go_wp2_with fail
  refine bodyPost_ret (results_cell_tmp rfl _ _ (w.heap.size + 2) 62 _ (0, 0) _ rfl (putV5_blk HR8.out _ _ _ _ _) Tryz.underlying62 rfl (by kernel_rfl)) rfl ⟨rfl, putV5_below (HF5.out.bel.trans (below_le HB7.out HF5.out.bel.size)) (by omega) _ _ _ _ _⟩
end Go.Proofs.YtdomglkcfecnnaaGreat
/- Walk: Decode, of the page's example. -/
namespace Go.Proofs.YtdomglkcfecnnaaGreat
open Go Go.RowKit Go.Shelf
attribute [local go_sem] run_store_float
structure DXI (q S : Nat) (W : World) : Prop where
  f : FLB W q exBL
  d : W.heap[S]? = some (.cells (exDa q) 27 (0, 0))
theorem DXI.below {q S : Nat} {W W' : World} (h : DXI q S W) (hb : Below W.heap.size W W') : DXI q S W' :=
  ⟨h.f.below hb, (hb.block _ (Array.getElem?_eq_some_iff.1 h.d).1).trans h.d⟩
theorem DXI.dc {q S : Nat} {W : World} (h : DXI q S W) : W.cell? ⟨S, 1, none⟩ = some (.slice (some ⟨q, 0, none⟩) 1 1) := by
  have := h.d
  simp [World.cell?, this, exDa]
theorem Tryz.infoVl : (Tryz.prog.info? 62).map (fun i => (i.zero, i.size, i.bytes)) = some (some (.agg #[.string ⟨#[]⟩, .int .i64 0, .bool false, .slice none 0 0, .float .f64 0]), 5, 64) := by kernel_rfl
theorem info_partsVl : ∃ i0, Tryz.prog.info? 62 = some i0 ∧ i0.zero = some (.agg #[.string ⟨#[]⟩, .int .i64 0, .bool false, .slice none 0 0, .float .f64 0]) ∧ i0.size = 5 ∧ i0.bytes = 64 := by
  have h := Tryz.infoVl
  cases hi : Tryz.prog.info? 62 with
  | none => rw [hi] at h; cases h
  | some i0 =>
    rw [hi] at h
    simp only [Option.map_some, Option.some.injEq, Prod.mk.injEq] at h
    exact ⟨i0, rfl, h.1, h.2.1, h.2.2⟩
set_option maxRecDepth 100000 in
set_option maxHeartbeats 8000000 in
theorem exDecode (q g c : Nat) (w : World) (hck : ∀ W, FLB W q exBL → Calls Tryz.prog 19 #[.agg (exDa q)] W fun e w' => e = .returned (.tuple #[.int .i64 (-1), .int .i64 0]) ∧ Below W.heap.size W w') (hq : FLB w q exBL) (hg : g < w.heap.size) (hc : 10 ≤ c) (hm : c ≤ 9223372036854775807)
    (hce : ∀ i, i < 10 → w.cell? ⟨g, i, none⟩ = some (.int .u8 ((ex10.getD i 0).toNat : Nat))) :
    Calls Tryz.prog 11 #[.agg (exDa q), .slice (some ⟨g, 0, none⟩) 10 c] w fun e w' => ∃ h cp, e = .returned (.tuple #[.slice (some ⟨h, 0, none⟩) 1 cp, .int .i64 0]) ∧ Hid (w'.cell? ⟨h, 2, none⟩ = some (.bool true) ∧ h < w'.heap.size ∧ Below w.heap.size w w') := by
  have hb0 : Below w.heap.size w (w.alloc (.cells (exDa q) 27)) := (Below.refl _ _).alloc (Nat.le_refl _) _
  have HI0 : Hid (DXI q w.heap.size (w.alloc (.cells (exDa q) 27))) := Lib.hid ⟨hq.below hb0, heap_alloc_new _ _⟩
  have HB0 := Lib.hid hb0
  have HCK : Hid (∀ W, DXI q w.heap.size W → Calls Tryz.prog 19 #[.agg (exDa q)] W fun e w' => e = .returned (.tuple #[.int .i64 (-1), .int .i64 0]) ∧ Below W.heap.size W w') := Lib.hid (fun W h => hck W h.f)
  have HCE : Hid (∀ W, Below w.heap.size w W → ∀ i, i < 10 → W.cell? ⟨g, i, none⟩ = some (.int .u8 ((ex10.getD i 0).toNat : Nat))) := Lib.hid (fun W h i hi => (h.cell (p := ⟨g, i, none⟩) hg).trans (hce i hi))
  have HG := Lib.hid (And.intro hg (And.intro hc hm))
  clear hq hb0 hck hce hg hc hm
  unfold exDa at HI0 HB0 HCK ⊢
  go_enter Tryz.func11, Tryz.ntmps11
  go_wp2_with (first | (go_at_call 19; fail))
  go_at_call 19
  refine (HCK.out _ HI0.out).mono ?_
  rintro e w1 ⟨rfl, hb1⟩
  have HI1 := Lib.hid (HI0.out.below hb1)
  have HB1 := Lib.hid (HB0.out.trans (below_le hb1 HB0.out.size))
  have hdc := HI1.out.dc
  clear hb1 HI0 HB0
  go_wp2_with (first | (go_at_call 20; fail))
  go_at_call 20
  refine (exEntries g c w1 (Nat.lt_of_lt_of_le HG.out.1 HB1.out.size) HG.out.2.1 HG.out.2.2 (HCE.out _ HB1.out)).mono ?_
  rintro e w4 ⟨x, cp, cc, rfl, HX⟩
  have HI4 := Lib.hid (HI1.out.below HX.out.2.2.2.2.2)
  have HB4 := Lib.hid (HB1.out.trans (below_le HX.out.2.2.2.2.2 HB1.out.size))
  have hdc4 := HI4.out.dc
  clear hdc HI1 HB1
  go_wp2_with fail
  refine wp_loop_rounds 2 ?_
  rw [rounds_succ]
  have HF4 : Hid (FLC w4 q 0 exBL) := Lib.hid HI4.out.f.flc
  have HZ4 : Hid (FLB (w4.alloc (.cells #[.int .i64 0, .string ⟨#[]⟩, .string ⟨#[]⟩, .slice none 0 0, .int .i64 0, .int .i64 0, .float .f64 0, .float .f64 0, .float .f64 0, .string ⟨#[]⟩, .int .i64 0, .bool false, .slice none 0 0, .float .f64 0, .string ⟨#[]⟩, .string ⟨#[]⟩] 66)) w4.heap.size FLz) := Lib.hid (heap_alloc_new _ _)
  go_upto_region 13 with (first | ((with_reducible refine wpList_ldF (F := exBL) (b := q) (q := 0) rfl rfl ?_ HF4.out ?_); rfl) | ((with_reducible refine wpList_stF (F := exBL) (G := FLz) (b := w4.heap.size) rfl rfl ?_ ?_ HZ4.out ?_); rfl; rfl))
  have hF5 := HZ4.out.row exBL
  have hF6 : Below w4.heap.size w4 ((w4.alloc (.cells #[.int .i64 0, .string ⟨#[]⟩, .string ⟨#[]⟩, .slice none 0 0, .int .i64 0, .int .i64 0, .float .f64 0, .float .f64 0, .float .f64 0, .string ⟨#[]⟩, .int .i64 0, .bool false, .slice none 0 0, .float .f64 0, .string ⟨#[]⟩, .string ⟨#[]⟩] 66)).setRow w4.heap.size exBL.a) := below_setRow ((Below.refl _ _).alloc (Nat.le_refl _) _) (Nat.le_refl _) _
  generalize (w4.alloc (.cells #[.int .i64 0, .string ⟨#[]⟩, .string ⟨#[]⟩, .slice none 0 0, .int .i64 0, .int .i64 0, .float .f64 0, .float .f64 0, .float .f64 0, .string ⟨#[]⟩, .int .i64 0, .bool false, .slice none 0 0, .float .f64 0, .string ⟨#[]⟩, .string ⟨#[]⟩] 66)).setRow w4.heap.size exBL.a = W5 at hF5 hF6 ⊢
  have HSC : Hid (∀ W, Below W5.heap.size W5 W → FLC W w4.heap.size 0 exBL ∧ W.cell? ⟨x, 0, none⟩ = some (.int .u8 5) ∧ W.cell? ⟨x, 1, none⟩ = some (.string ⟨#[97]⟩) ∧ W.cell? ⟨x, 2, none⟩ = some (.slice (some ⟨g, 5, none⟩) 1 cc)) := Lib.hid (fun W hW => by
    have hl := HX.out.2.2.2.1
    have k : ∀ j v, w4.cell? ⟨x, j, none⟩ = some v → W.cell? ⟨x, j, none⟩ = some v := fun j v h => (hW.cell (p := ⟨x, j, none⟩) (Nat.lt_of_lt_of_le hl hF6.size)).trans ((hF6.cell (p := ⟨x, j, none⟩) hl).trans h)
    exact ⟨(hF5.below hW).flc, k _ _ HX.out.1, k _ _ HX.out.2.1, k _ _ HX.out.2.2.1⟩)
  have HI5 := Lib.hid (HI4.out.below hF6)
  have HB5 := Lib.hid (HB4.out.trans (below_le hF6 HB4.out.size))
  have HFT : Hid (∀ W, Below W5.heap.size W5 W → Calls Tryz.prog 21 #[exBL.v, .agg #[.int .u8 5, .string ⟨#[97]⟩, .slice (some ⟨g, 5, none⟩) 1 cc]] W fun e w' => e = .returned (.tuple #[.agg exVa, .bool true]) ∧ Below W.heap.size W w') := Lib.hid (fun W h =>
    exFits g cc W (Nat.lt_of_lt_of_le HG.out.1 (Nat.le_trans HB5.out.size h.size)) HX.out.2.2.2.2.1.1 HX.out.2.2.2.2.1.2 ((h.cell (p := ⟨g, 5, none⟩) (Nat.lt_of_lt_of_le HG.out.1 HB5.out.size)).trans (HCE.out _ HB5.out 5 (by omega))))
  have HB6 : Hid (Below W5.heap.size W5 W5.drew) := Lib.hid (Below.refl _ _).drew
  have HS0 := Lib.hid (HSC.out _ HB6.out)
  unfold exVa at HFT
  clear hF5 hF6 HF4 HZ4 HI4 HB4 hdc4
  obtain ⟨i0, hi0, hz0, hz1, hz2⟩ := info_partsVl
  have HNI := Lib.hid hi0
  have HX0 := Lib.hid hz0
  have HX1 := Lib.hid hz1
  have HX2 := Lib.hid hz2
  clear hi0 hz0 hz1 hz2
  refine wp_region_held (S := (fun W => FLC W w4.heap.size 0 exBL ∧ W.cell? ⟨x, 0, none⟩ = some (.int .u8 5) ∧ W.cell? ⟨x, 1, none⟩ = some (.string ⟨#[97]⟩) ∧ W.cell? ⟨x, 2, none⟩ = some (.slice (some ⟨g, 5, none⟩) 1 cc))) (by as_aux_lemma => kernel_rfl) ?_
  change wpAnyH _ _ _ _ _ _ _ _ (World.drew _)
  refine wpAnyH_take (i := 0) (v := exBL.v) rfl (by as_aux_lemma => kernel_rfl) (by as_aux_lemma => kernel_rfl) (by as_aux_lemma => kernel_rfl) (fun _ _ _ h => h) (yieldsF rfl rfl rfl (fun w h => h.1)) HS0.out ?_
  try simp only [Act.put, List.setIfInBounds_toArray, List.set_cons_zero, List.set_cons_succ, List.getElem_toArray, List.getElem_cons_zero]
  refine wpAnyH_take (i := 1) (v := _) rfl (by as_aux_lemma => kernel_rfl) (by as_aux_lemma => kernel_rfl) (by as_aux_lemma => kernel_rfl) (fun _ _ _ h => h) (Or.inl ⟨by rfl, by intro w hSw; (try dsimp only at hSw); go_simp; try (with_reducible rfl)⟩) HS0.out ?_
  try simp only [Act.put, List.setIfInBounds_toArray, List.set_cons_zero, List.set_cons_succ, List.getElem_toArray, List.getElem_cons_succ, List.getElem_cons_zero]
  refine wpAnyH_take (i := 2) (v := _) rfl (by as_aux_lemma => kernel_rfl) (by as_aux_lemma => kernel_rfl) (by as_aux_lemma => kernel_rfl) (fun _ _ _ h => h) (Or.inl ⟨by rfl, by intro w hSw; (try dsimp only at hSw); go_simp; try (with_reducible rfl)⟩) HS0.out ?_
  try simp only [Act.put, List.setIfInBounds_toArray, List.set_cons_zero, List.set_cons_succ, List.getElem_toArray, List.getElem_cons_succ, List.getElem_cons_zero]
  refine wpAnyH_take (i := 3) (v := _) rfl (by as_aux_lemma => kernel_rfl) (by as_aux_lemma => kernel_rfl) (by as_aux_lemma => kernel_rfl) (fun _ _ _ h => h) (Or.inl ⟨by rfl, by intro w hSw; (try dsimp only at hSw); go_simp; try (with_reducible rfl)⟩) HS0.out ?_
  try simp only [Act.put, List.setIfInBounds_toArray, List.set_cons_zero, List.set_cons_succ, List.getElem_toArray, List.getElem_cons_succ, List.getElem_cons_zero]
  refine wpAnyH_take (i := 4) (v := _) rfl (by as_aux_lemma => kernel_rfl) (by as_aux_lemma => kernel_rfl) (by as_aux_lemma => kernel_rfl) (fun _ _ _ h => h) (Or.inl ⟨by rfl, by intro w hSw; (try dsimp only at hSw); go_simp; try (with_reducible rfl)⟩) HS0.out ?_
  try simp only [Act.put, List.setIfInBounds_toArray, List.set_cons_zero, List.set_cons_succ, List.getElem_toArray, List.getElem_cons_succ, List.getElem_cons_zero]
  refine wpAnyH_ready (rs := [5, 9]) (by as_aux_lemma => kernel_rfl) (by simp) ?_
  refine AllReadyH.cons rfl (fun K hK => ?_) (AllReadyH.cons rfl (fun K hK => ?_) AllReadyH.nil)
  · go_simp
    go_at_call 21
    refine (HFT.out _ HB6.out).mono ?_
    rintro e w7 ⟨rfl, hb7⟩
    have HB7 : Hid (Below W5.heap.size W5 w7) := Lib.hid (HB6.out.trans (below_le hb7 HB6.out.size))
    have HS7 := Lib.hid (HSC.out _ HB7.out)
    clear hb7
    refine hK.out _ _ HS7.out (fun _ => ?_)
    clear hK K
    try simp only [Act.put, List.setIfInBounds_toArray, List.set_cons_zero, List.set_cons_succ, List.getElem_toArray, List.getElem_cons_succ, List.getElem_cons_zero]
    refine wpAnyH_take (i := 6) (v := _) rfl (by as_aux_lemma => kernel_rfl) (by as_aux_lemma => kernel_rfl) (by as_aux_lemma => kernel_rfl) (fun _ _ _ h => h) (Or.inl ⟨by rfl, by intro w hSw; (try dsimp only at hSw); go_simp; try (with_reducible rfl)⟩) HS7.out ?_
    try simp only [Act.put, List.setIfInBounds_toArray, List.set_cons_zero, List.set_cons_succ, List.getElem_toArray, List.getElem_cons_succ, List.getElem_cons_zero]
    refine wpAnyH_take (i := 7) (v := _) rfl (by as_aux_lemma => kernel_rfl) (by as_aux_lemma => kernel_rfl) (by as_aux_lemma => kernel_rfl) (fun _ _ _ h => h) (Or.inl ⟨by rfl, by intro w hSw; (try dsimp only at hSw); go_simp; try (with_reducible rfl)⟩) HS7.out ?_
    try simp only [Act.put, List.setIfInBounds_toArray, List.set_cons_zero, List.set_cons_succ, List.getElem_toArray, List.getElem_cons_succ, List.getElem_cons_zero]
    refine wpAnyH_take (i := 8) (v := _) rfl (by as_aux_lemma => kernel_rfl) (by as_aux_lemma => kernel_rfl) (by as_aux_lemma => kernel_rfl) (fun _ _ _ h => h) (Or.inl ⟨by rfl, by intro w hSw; (try dsimp only at hSw); go_simp; try (with_reducible rfl)⟩) HS7.out ?_
    try simp only [Act.put, List.setIfInBounds_toArray, List.set_cons_zero, List.set_cons_succ, List.getElem_toArray, List.getElem_cons_succ, List.getElem_cons_zero]
    refine wpAnyH_ready (rs := [9]) (by as_aux_lemma => kernel_rfl) (by simp) ?_
    refine AllReadyH.cons rfl (fun K hK => ?_) AllReadyH.nil
    go_simp
    have HV8 : Hid (VLBx (w7.alloc (.cells #[.string ⟨#[]⟩, .int .i64 0, .bool false, .slice none 0 0, .float .f64 0] 62)) w7.heap.size (.string ⟨#[]⟩) (.int .i64 0) (.bool false) (.slice none 0 0) (.float .f64 0)) := Lib.hid (heap_alloc_new _ _)
    have HB8 : Hid (Below W5.heap.size W5 (w7.alloc (.cells #[.string ⟨#[]⟩, .int .i64 0, .bool false, .slice none 0 0, .float .f64 0] 62))) := Lib.hid (HB7.out.alloc HB7.out.size _)
    generalize w7.alloc (.cells #[.string ⟨#[]⟩, .int .i64 0, .bool false, .slice none 0 0, .float .f64 0] 62) = w8 at HV8 HB8 ⊢
    have HS8 := Lib.hid (HSC.out _ HB8.out)
    refine hK.out _ _ HS8.out (fun _ => ?_)
    clear hK K HS7
    try simp only [Act.put, List.setIfInBounds_toArray, List.set_cons_zero, List.set_cons_succ, List.getElem_toArray, List.getElem_cons_succ, List.getElem_cons_zero]
    obtain ⟨v0, v1, v2, v3, v4, vf, vl⟩ := HV8.out.cells
    have f0 := vf 0
    have f1 := vf 1
    have f2 := vf 2
    have f3 := vf 3
    have f4 := vf 4
    refine wpAnyH_ready (rs := [10]) (by as_aux_lemma => kernel_rfl) (by simp) ?_
    refine AllReadyH.cons rfl (fun K hK => ?_) AllReadyH.nil
    go_simp
    have HV9 : Hid (VLBx (putV5 w8 w7.heap.size (.string ⟨#[]⟩) (.int .i64 0) (.bool true) (.slice none 0 0) (.float .f64 0)) w7.heap.size (.string ⟨#[]⟩) (.int .i64 0) (.bool true) (.slice none 0 0) (.float .f64 0)) := Lib.hid (putV5_blk HV8.out _ _ _ _ _)
    have HB9 : Hid (Below W5.heap.size W5 (putV5 w8 w7.heap.size (.string ⟨#[]⟩) (.int .i64 0) (.bool true) (.slice none 0 0) (.float .f64 0))) := Lib.hid (putV5_below HB8.out HB7.out.size _ _ _ _ _)
    have HS9 := Lib.hid (HSC.out _ HB9.out)
    unfold putV5 at HV9 HB9 HS9
    refine hK.out _ _ HS9.out (fun _ => ?_)
    clear hK K
    try simp only [Act.put, List.setIfInBounds_toArray, List.set_cons_zero, List.set_cons_succ, List.getElem_toArray, List.getElem_cons_succ, List.getElem_cons_zero]
    refine wpAnyH_take (i := 11) (v := _) rfl (by as_aux_lemma => kernel_rfl) (by as_aux_lemma => kernel_rfl) (by as_aux_lemma => kernel_rfl) (fun _ _ _ h => h) (Or.inl ⟨by rfl, by intro w hSw; (try dsimp only at hSw); go_simp; try (with_reducible rfl)⟩) HS9.out ?_
    try simp only [Act.put, List.setIfInBounds_toArray, List.set_cons_zero, List.set_cons_succ, List.getElem_toArray, List.getElem_cons_succ, List.getElem_cons_zero]
    refine wpAnyH_done (by as_aux_lemma => kernel_rfl) ?_ _
    obtain ⟨u0, u1, u2, u3, u4, _, _⟩ := HV9.out.cells
    have HBZ := Lib.hid (HB5.out.trans (below_le HB9.out HB5.out.size))
    clear v0 v1 v2 v3 v4 vf vl f0 f1 f2 f3 f4 HS9 HV8 HV9 HB8 HB9
    generalize ((((w8.setCell ⟨w7.heap.size, 0, none⟩ (.string ⟨#[]⟩)).setCell ⟨w7.heap.size, 1, none⟩ (.int .i64 0)).setCell ⟨w7.heap.size, 2, none⟩ (.bool true)).setCell ⟨w7.heap.size, 3, none⟩ (.slice none 0 0)).setCell ⟨w7.heap.size, 4, none⟩ (.float .f64 0) = w9 at u0 u1 u2 u3 u4 HBZ ⊢
    have hz9 : w.heap.size ≤ w9.heap.size := HBZ.out.size
    go_wp2_with (first | (at_builtin; go_loud (refine wpList_append_own_at _ rfl _ _ 22 rfl w.heap.size 62 i0 (.agg #[.string ⟨#[]⟩, .int .i64 0, .bool false, .slice none 0 0, .float .f64 0]) 5 64 Tryz.underlying22 HNI.out HX0.out HX1.out HX2.out rfl (by decide) _ _ _ rfl (World.ownsRow_nil _ _ _ _) ⟨w9.heap.size, 0, none⟩ 1 1 [.string ⟨#[]⟩, .int .i64 0, .bool true, .slice none 0 0, .float .f64 0] rfl rfl (cell_many_new w9 _ _) (by simp [Value.oneCell']) (by unfold maxLen; omega) (by omega) (by simp; omega) ?_); intro v10 w10 hown10 hgrow10 hnil10 hat10; have HO10 := Lib.hid hown10; have HB10 : Hid (Below w.heap.size w w10) := Lib.hid ((HBZ.out.alloc hz9 _).grown hgrow10 (by simp; omega) (fun j hj => by cases hj)); clear hown10 hgrow10 hnil10 hat10))
    obtain ⟨h, cp, rfl, _⟩ := own_sliceN HO10.out (by omega)
    have k2 := HO10.out.cellAt 2 (by omega)
    have l2 := (HO10.out.lt h rfl).2
    have HK : Hid (w10.cell? ⟨h, 2, none⟩ = some (.bool true) ∧ h < w10.heap.size ∧ Below w.heap.size w w10) := Lib.hid ⟨k2, l2, HB10.out⟩
    clear k2 l2 HO10 HB10
    rw [rounds_succ]
    go_wp2_with fail
    go_ret2
    exact ⟨h, cp, rfl, HK⟩
  · go_simp
    have HV6 : Hid (VLBx (W5.alloc (.cells #[.string ⟨#[]⟩, .int .i64 0, .bool false, .slice none 0 0, .float .f64 0] 62)).drew W5.heap.size (.string ⟨#[]⟩) (.int .i64 0) (.bool false) (.slice none 0 0) (.float .f64 0)) := Lib.hid (heap_alloc_new W5 _)
    have HB6B : Hid (Below W5.heap.size W5 (W5.alloc (.cells #[.string ⟨#[]⟩, .int .i64 0, .bool false, .slice none 0 0, .float .f64 0] 62)).drew) := Lib.hid ((Below.refl _ _).alloc (Nat.le_refl _) _).drew
    generalize (W5.alloc (.cells #[.string ⟨#[]⟩, .int .i64 0, .bool false, .slice none 0 0, .float .f64 0] 62)).drew = w6 at HV6 HB6B ⊢
    have HS6 := Lib.hid (HSC.out _ HB6B.out)
    refine hK.out _ _ HS6.out (fun _ => ?_)
    clear hK K
    try simp only [Act.put, List.setIfInBounds_toArray, List.set_cons_zero, List.set_cons_succ, List.getElem_toArray, List.getElem_cons_succ, List.getElem_cons_zero]
    refine wpAnyH_ready (rs := [5]) (by as_aux_lemma => kernel_rfl) (by simp) ?_
    refine AllReadyH.cons rfl (fun K hK => ?_) AllReadyH.nil
    go_simp
    go_at_call 21
    refine (HFT.out _ HB6B.out).mono ?_
    rintro e w8 ⟨rfl, hb8⟩
    have HB8 : Hid (Below W5.heap.size W5 w8) := Lib.hid (HB6B.out.trans (below_le hb8 HB6B.out.size))
    have HV8 : Hid (VLBx w8 W5.heap.size (.string ⟨#[]⟩) (.int .i64 0) (.bool false) (.slice none 0 0) (.float .f64 0)) := Lib.hid ((hb8.block _ HV6.out.cells.2.2.2.2.2.2).trans HV6.out)
    have HS8 := Lib.hid (HSC.out _ HB8.out)
    clear hb8 HV6 HS6
    refine hK.out _ _ HS8.out (fun _ => ?_)
    clear hK K
    try simp only [Act.put, List.setIfInBounds_toArray, List.set_cons_zero, List.set_cons_succ, List.getElem_toArray, List.getElem_cons_succ, List.getElem_cons_zero]
    refine wpAnyH_take (i := 6) (v := _) rfl (by as_aux_lemma => kernel_rfl) (by as_aux_lemma => kernel_rfl) (by as_aux_lemma => kernel_rfl) (fun _ _ _ h => h) (Or.inl ⟨by rfl, by intro w hSw; (try dsimp only at hSw); go_simp; try (with_reducible rfl)⟩) HS8.out ?_
    try simp only [Act.put, List.setIfInBounds_toArray, List.set_cons_zero, List.set_cons_succ, List.getElem_toArray, List.getElem_cons_succ, List.getElem_cons_zero]
    refine wpAnyH_take (i := 7) (v := _) rfl (by as_aux_lemma => kernel_rfl) (by as_aux_lemma => kernel_rfl) (by as_aux_lemma => kernel_rfl) (fun _ _ _ h => h) (Or.inl ⟨by rfl, by intro w hSw; (try dsimp only at hSw); go_simp; try (with_reducible rfl)⟩) HS8.out ?_
    try simp only [Act.put, List.setIfInBounds_toArray, List.set_cons_zero, List.set_cons_succ, List.getElem_toArray, List.getElem_cons_succ, List.getElem_cons_zero]
    refine wpAnyH_take (i := 8) (v := _) rfl (by as_aux_lemma => kernel_rfl) (by as_aux_lemma => kernel_rfl) (by as_aux_lemma => kernel_rfl) (fun _ _ _ h => h) (Or.inl ⟨by rfl, by intro w hSw; (try dsimp only at hSw); go_simp; try (with_reducible rfl)⟩) HS8.out ?_
    try simp only [Act.put, List.setIfInBounds_toArray, List.set_cons_zero, List.set_cons_succ, List.getElem_toArray, List.getElem_cons_succ, List.getElem_cons_zero]
    obtain ⟨v0, v1, v2, v3, v4, vf, vl⟩ := HV8.out.cells
    have f0 := vf 0
    have f1 := vf 1
    have f2 := vf 2
    have f3 := vf 3
    have f4 := vf 4
    refine wpAnyH_ready (rs := [10]) (by as_aux_lemma => kernel_rfl) (by simp) ?_
    refine AllReadyH.cons rfl (fun K hK => ?_) AllReadyH.nil
    go_simp
    have HV9 : Hid (VLBx (putV5 w8 W5.heap.size (.string ⟨#[]⟩) (.int .i64 0) (.bool true) (.slice none 0 0) (.float .f64 0)) W5.heap.size (.string ⟨#[]⟩) (.int .i64 0) (.bool true) (.slice none 0 0) (.float .f64 0)) := Lib.hid (putV5_blk HV8.out _ _ _ _ _)
    have HB9 : Hid (Below W5.heap.size W5 (putV5 w8 W5.heap.size (.string ⟨#[]⟩) (.int .i64 0) (.bool true) (.slice none 0 0) (.float .f64 0))) := Lib.hid (putV5_below HB8.out (Nat.le_refl _) _ _ _ _ _)
    have HS9 := Lib.hid (HSC.out _ HB9.out)
    unfold putV5 at HV9 HB9 HS9
    refine hK.out _ _ HS9.out (fun _ => ?_)
    clear hK K
    try simp only [Act.put, List.setIfInBounds_toArray, List.set_cons_zero, List.set_cons_succ, List.getElem_toArray, List.getElem_cons_succ, List.getElem_cons_zero]
    refine wpAnyH_take (i := 11) (v := _) rfl (by as_aux_lemma => kernel_rfl) (by as_aux_lemma => kernel_rfl) (by as_aux_lemma => kernel_rfl) (fun _ _ _ h => h) (Or.inl ⟨by rfl, by intro w hSw; (try dsimp only at hSw); go_simp; try (with_reducible rfl)⟩) HS9.out ?_
    try simp only [Act.put, List.setIfInBounds_toArray, List.set_cons_zero, List.set_cons_succ, List.getElem_toArray, List.getElem_cons_succ, List.getElem_cons_zero]
    refine wpAnyH_done (by as_aux_lemma => kernel_rfl) ?_ _
    obtain ⟨u0, u1, u2, u3, u4, _, _⟩ := HV9.out.cells
    have HBZ := Lib.hid (HB5.out.trans (below_le HB9.out HB5.out.size))
    clear v0 v1 v2 v3 v4 vf vl f0 f1 f2 f3 f4 HS9 HV8 HV9 HB8 HB9
    generalize ((((w8.setCell ⟨W5.heap.size, 0, none⟩ (.string ⟨#[]⟩)).setCell ⟨W5.heap.size, 1, none⟩ (.int .i64 0)).setCell ⟨W5.heap.size, 2, none⟩ (.bool true)).setCell ⟨W5.heap.size, 3, none⟩ (.slice none 0 0)).setCell ⟨W5.heap.size, 4, none⟩ (.float .f64 0) = w9 at u0 u1 u2 u3 u4 HBZ ⊢
    have hz9 : w.heap.size ≤ w9.heap.size := HBZ.out.size
    go_wp2_with (first | (at_builtin; go_loud (refine wpList_append_own_at _ rfl _ _ 22 rfl w.heap.size 62 i0 (.agg #[.string ⟨#[]⟩, .int .i64 0, .bool false, .slice none 0 0, .float .f64 0]) 5 64 Tryz.underlying22 HNI.out HX0.out HX1.out HX2.out rfl (by decide) _ _ _ rfl (World.ownsRow_nil _ _ _ _) ⟨w9.heap.size, 0, none⟩ 1 1 [.string ⟨#[]⟩, .int .i64 0, .bool true, .slice none 0 0, .float .f64 0] rfl rfl (cell_many_new w9 _ _) (by simp [Value.oneCell']) (by unfold maxLen; omega) (by omega) (by simp; omega) ?_); intro v10 w10 hown10 hgrow10 hnil10 hat10; have HO10 := Lib.hid hown10; have HB10 : Hid (Below w.heap.size w w10) := Lib.hid ((HBZ.out.alloc hz9 _).grown hgrow10 (by simp; omega) (fun j hj => by cases hj)); clear hown10 hgrow10 hnil10 hat10))
    obtain ⟨h, cp, rfl, _⟩ := own_sliceN HO10.out (by omega)
    have k2 := HO10.out.cellAt 2 (by omega)
    have l2 := (HO10.out.lt h rfl).2
    have HK : Hid (w10.cell? ⟨h, 2, none⟩ = some (.bool true) ∧ h < w10.heap.size ∧ Below w.heap.size w w10) := Lib.hid ⟨k2, l2, HB10.out⟩
    clear k2 l2 HO10 HB10
    rw [rounds_succ]
    go_wp2_with fail
    go_ret2
    exact ⟨h, cp, rfl, HK⟩
end Go.Proofs.YtdomglkcfecnnaaGreat
