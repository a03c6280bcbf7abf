/- Own texts, merged: YA, Y5, YB. -/
import Derived.Test.YtdomglkcfecnnaaGreatMP38
import Derived.Test.YtdomglkcfecnnaaGreatMP41
import Derived.Test.YtdomglkcfecnnaaGreatMP42
import Derived.Test.YtdomglkcfecnnaaGreatShelfC
/- Walks: entries, of the page's example. -/
namespace Go.Proofs.YtdomglkcfecnnaaGreat
open Go Go.RowKit Go.Shelf
attribute [local go_sem] run_store_float
def ex10 : List UInt8 := [1, 5, 1, 97, 1, 1] ++ sumS [1, 5, 1, 97, 1, 1]
def ex4 : List Int := (sumS [1, 5, 1, 97, 1, 1]).map (fun b => ((b.toNat : Nat) : Int))
theorem ex4_len : ex4.length = 4 := by simp [ex4, sumS_len]
theorem ex10_six : ∀ i, i < 6 → ex10.getD i 0 = ex6.getD i 0 := by decide +kernel
theorem ex10_four : ∀ i, i < 4 → ((ex10.getD (6 + i) 0).toNat : Int) = ex4.getD i 0 := by decide +kernel
theorem sum_cells (W : World) (i : Nat) (hi : i < 4) : (W.alloc (.cells ((sumS [1, 5, 1, 97, 1, 1]).map u8V).toArray 5)).cell? ⟨W.heap.size, 0 + i, none⟩ = some (.int .u8 (ex4.getD i 0)) := by
  simp only [World.cell?, heap_alloc_new, Nat.zero_add]
  have h : i = 0 ∨ i = 1 ∨ i = 2 ∨ i = 3 := by omega
  rcases h with rfl | rfl | rfl | rfl <;> rfl
set_option maxRecDepth 100000 in
set_option maxHeartbeats 8000000 in
theorem exEntries (g c : Nat) (w : World) (hg : g < w.heap.size) (hc : 10 ≤ c) (hm : c ≤ 9223372036854775807) (hce : ∀ i, i < 10 → w.cell? ⟨g, i, none⟩ = some (.int .u8 ((ex10.getD i 0).toNat : Nat))) :
    Calls Tryz.prog 20 #[.slice (some ⟨g, 0, none⟩) 10 c] w fun e w' => ∃ x cp cc, e = .returned (.tuple #[.slice (some ⟨x, 0, none⟩) 1 cp, .int .i64 0]) ∧
      Hid (w'.cell? ⟨x, 0, none⟩ = some (.int .u8 5) ∧ w'.cell? ⟨x, 1, none⟩ = some (.string ⟨#[97]⟩) ∧ w'.cell? ⟨x, 2, none⟩ = some (.slice (some ⟨g, 5, none⟩) 1 cc) ∧ x < w'.heap.size ∧ (1 < cc ∧ cc ≤ 9223372036854775807) ∧ Below w.heap.size w w') := by
  have i6 : (6 : Int) ≤ (c : Int) := by omega
  have n6 : ¬ c = 6 := by omega
  obtain ⟨r, hr⟩ : ∃ r, c - 6 = r + 1 := ⟨c - 7, by omega⟩
  have HCE := Lib.hid hce
  have HG := Lib.hid hg
  have HM := Lib.hid (And.intro hc hm)
  clear hce hm hc
  go_enter Tryz.func20, Tryz.ntmps20
  go_upto_region 2 with fail
  have HA0 : Hid (∀ o1 o2 : Obj, Below w.heap.size w ((w.alloc o1).alloc o2)) := Lib.hid (fun o1 o2 => ((Below.refl _ _).alloc (Nat.le_refl _) o1).alloc (by simp) o2)
  obtain ⟨W0, hW0⟩ : ∃ W0, W0 = (w.alloc (.cells #[.slice (some ⟨g, 0, none⟩) 10 c] 37)).alloc (.cells #[.int .i64 6] 3) := ⟨_, rfl⟩
  have HB0 : Hid (Below w.heap.size w W0) := Lib.hid (by rw [hW0]; exact HA0.out _ _)
  have HX1 : Hid (Box W0 w.heap.size 37 (.slice (some ⟨g, 0, none⟩) 10 c)) := Lib.hid (by rw [hW0]; exact (heap_alloc_old _ _ (by simp)).trans (heap_alloc_new _ _))
  have HX2 : Hid (Box W0 (w.heap.size + 1) 3 (.int .i64 6)) := Lib.hid (by rw [hW0]; exact alloc_new1 w _ _)
  have HSE : Hid (∀ W, Below W0.heap.size W0 W → W.cell? ⟨w.heap.size, 0, none⟩ = some (.slice (some ⟨g, 0, none⟩) 10 c) ∧ W.cell? ⟨w.heap.size + 1, 0, none⟩ = some (.int .i64 6)) := Lib.hid (fun W h => ⟨(HX1.out.kept HX1.out.lt h).cell, (HX2.out.kept HX2.out.lt h).cell⟩)
  have HCW : Hid (∀ W, Below W0.heap.size W0 W → ∀ i, i < 10 → W.cell? ⟨g, i, none⟩ = some (.int .u8 ((ex10.getD i 0).toNat : Nat))) := Lib.hid (fun W h i hi => (h.cell (p := ⟨g, i, none⟩) (Nat.lt_of_lt_of_le HG.out HB0.out.size)).trans ((HB0.out.cell (p := ⟨g, i, none⟩) HG.out).trans (HCE.out i hi)))
  have HSU : Hid (∀ W, Below W0.heap.size W0 W → Calls Tryz.prog 18 #[.slice (some ⟨g, 0, none⟩) 6 c] W fun e w' => e = .returned (.slice (some ⟨W.heap.size, 0, none⟩) 4 4) ∧ w' = W.alloc (.cells ((sumS [1, 5, 1, 97, 1, 1]).map u8V).toArray 5)) := Lib.hid (fun W h =>
    wSum (some ⟨g, 0, none⟩) [1, 5, 1, 97, 1, 1] c W (fun _ => ⟨g, 0, rfl, Nat.lt_of_lt_of_le HG.out (Nat.le_trans HB0.out.size h.size), fun i hi => by
      have h6 : i < 6 := hi
      rw [Nat.zero_add, HCW.out W h i (by omega), ex10_six i h6]; rfl⟩) (by simp))
  have HZ3 : Hid (∀ W, Below W0.heap.size W0 W → Lib.BytesIn W (some ⟨g, 6, none⟩) 4 ex4) := Lib.hid (fun W h _ => ⟨g, 6, rfl, fun i hi => by rw [HCW.out W h (6 + i) (by omega), ex10_four i hi]⟩)
  have HEQ : Hid (∀ W d1 d2, Lib.BytesIn W (some ⟨W0.heap.size, 0, none⟩) 4 ex4 → Lib.BytesIn W (some ⟨g, 6, none⟩) 4 ex4 → Calls Tryz.prog 35 #[.slice (some ⟨W0.heap.size, 0, none⟩) 4 d1, .slice (some ⟨g, 6, none⟩) 4 d2] W fun e w' => e = .returned (.bool true) ∧ w' = W) := Lib.hid (fun W d1 d2 h1 h2 => by
    have h := Tryz.bytes_Equal_all (some ⟨W0.heap.size, 0, none⟩) (some ⟨g, 6, none⟩) 4 d1 4 d2 ex4 ex4 W ex4_len ex4_len h1 h2
    rw [beq_self_eq_true] at h
    exact h)
  have HBD : Hid (Below W0.heap.size W0 W0.drew) := Lib.hid (Below.refl _ _).drew
  have HS0 := Lib.hid (HSE.out _ HBD.out)
  rw [← hW0]
  clear hW0 HA0
  refine wp_region_held (S := (fun W => W.cell? ⟨w.heap.size, 0, none⟩ = some (.slice (some ⟨g, 0, none⟩) 10 c) ∧ W.cell? ⟨w.heap.size + 1, 0, none⟩ = some (.int .i64 6))) (by as_aux_lemma => kernel_rfl) ?_
  change wpAnyH _ _ _ _ _ _ _ _ (World.drew _)
  refine wpAnyH_take (i := 0) (v := _) rfl (by as_aux_lemma => kernel_rfl) (by as_aux_lemma => kernel_rfl) (by as_aux_lemma => kernel_rfl) (fun _ _ _ h => h) (Or.inl ⟨by rfl, by intro w hSw; (try dsimp only at hSw); go_simp; try (with_reducible rfl)⟩) HS0.out ?_
  try simp only [Act.put, List.setIfInBounds_toArray, List.set_cons_zero, List.set_cons_succ, List.getElem_toArray, List.getElem_cons_zero]
  refine wpAnyH_take (i := 1) (v := _) rfl (by as_aux_lemma => kernel_rfl) (by as_aux_lemma => kernel_rfl) (by as_aux_lemma => kernel_rfl) (fun _ _ _ h => h) (Or.inl ⟨by rfl, by intro w hSw; (try dsimp only at hSw); go_simp; try (with_reducible rfl)⟩) HS0.out ?_
  try simp only [Act.put, List.setIfInBounds_toArray, List.set_cons_zero, List.set_cons_succ, List.getElem_toArray, List.getElem_cons_succ, List.getElem_cons_zero]
  refine wpAnyH_take (i := 2) (v := _) rfl (by as_aux_lemma => kernel_rfl) (by as_aux_lemma => kernel_rfl) (by as_aux_lemma => kernel_rfl) (fun _ _ _ h => h) (Or.inl ⟨by rfl, by intro w hSw; (try dsimp only at hSw); go_simp; try (with_reducible rfl)⟩) HS0.out ?_
  try simp only [Act.put, List.setIfInBounds_toArray, List.set_cons_zero, List.set_cons_succ, List.getElem_toArray, List.getElem_cons_succ, List.getElem_cons_zero]
  refine wpAnyH_take (i := 3) (v := _) rfl (by as_aux_lemma => kernel_rfl) (by as_aux_lemma => kernel_rfl) (by as_aux_lemma => kernel_rfl) (fun _ _ _ h => h) (Or.inl ⟨by rfl, by intro w hSw; (try dsimp only at hSw); go_simp; try (with_reducible rfl)⟩) HS0.out ?_
  try simp only [Act.put, List.setIfInBounds_toArray, List.set_cons_zero, List.set_cons_succ, List.getElem_toArray, List.getElem_cons_succ, List.getElem_cons_zero]
  refine wpAnyH_take (i := 4) (v := _) rfl (by as_aux_lemma => kernel_rfl) (by as_aux_lemma => kernel_rfl) (by as_aux_lemma => kernel_rfl) (fun _ _ _ h => h) (Or.inl ⟨by rfl, by intro w hSw; (try dsimp only at hSw); go_simp; try (with_reducible rfl)⟩) HS0.out ?_
  try simp only [Act.put, List.setIfInBounds_toArray, List.set_cons_zero, List.set_cons_succ, List.getElem_toArray, List.getElem_cons_succ, List.getElem_cons_zero]
  refine wpAnyH_take (i := 5) (v := _) rfl (by as_aux_lemma => kernel_rfl) (by as_aux_lemma => kernel_rfl) (by as_aux_lemma => kernel_rfl) (fun _ _ _ h => h) (Or.inl ⟨by rfl, by intro w hSw; (try dsimp only at hSw); go_simp; try (with_reducible rfl)⟩) HS0.out ?_
  try simp only [Act.put, List.setIfInBounds_toArray, List.set_cons_zero, List.set_cons_succ, List.getElem_toArray, List.getElem_cons_succ, List.getElem_cons_zero]
  refine wpAnyH_take (i := 7) (v := _) rfl (by as_aux_lemma => kernel_rfl) (by as_aux_lemma => kernel_rfl) (by as_aux_lemma => kernel_rfl) (fun _ _ _ h => h) (Or.inl ⟨by rfl, by intro w hSw; (try dsimp only at hSw); go_simp; try (with_reducible rfl)⟩) HS0.out ?_
  try simp only [Act.put, List.setIfInBounds_toArray, List.set_cons_zero, List.set_cons_succ, List.getElem_toArray, List.getElem_cons_succ, List.getElem_cons_zero]
  refine wpAnyH_take (i := 8) (v := _) rfl (by as_aux_lemma => kernel_rfl) (by as_aux_lemma => kernel_rfl) (by as_aux_lemma => kernel_rfl) (fun _ _ _ h => h) (Or.inl ⟨by rfl, by intro w hSw; (try dsimp only at hSw); go_simp; try (with_reducible rfl)⟩) HS0.out ?_
  try simp only [Act.put, List.setIfInBounds_toArray, List.set_cons_zero, List.set_cons_succ, List.getElem_toArray, List.getElem_cons_succ, List.getElem_cons_zero]
  refine wpAnyH_take (i := 9) (v := _) rfl (by as_aux_lemma => kernel_rfl) (by as_aux_lemma => kernel_rfl) (by as_aux_lemma => kernel_rfl) (fun _ _ _ h => h) (Or.inl ⟨by rfl, by intro w hSw; (try dsimp only at hSw); go_simp; try (with_reducible rfl)⟩) HS0.out ?_
  try simp only [Act.put, List.setIfInBounds_toArray, List.set_cons_zero, List.set_cons_succ, List.getElem_toArray, List.getElem_cons_succ, List.getElem_cons_zero]
  refine wpAnyH_ready (rs := [6]) (by as_aux_lemma => kernel_rfl) (by simp) ?_
  refine AllReadyH.cons rfl (fun K hK => ?_) AllReadyH.nil
  go_simp
  go_at_call 18
  refine (HSU.out _ HBD.out).mono ?_
  rintro e w3 ⟨rfl, hw3⟩
  have HB3 : Hid (Below W0.heap.size W0 w3) := Lib.hid (HBD.out.trans (by rw [hw3]; exact below_le ((Below.refl _ _).alloc (Nat.le_refl _) _) HBD.out.size))
  have HS3 := Lib.hid (HSE.out _ HB3.out)
  have HY3 : Hid (Lib.BytesIn w3 (some ⟨W0.heap.size, 0, none⟩) 4 ex4) := Lib.hid (fun _ => ⟨W0.heap.size, 0, rfl, fun i hi => by rw [hw3]; exact sum_cells _ i hi⟩)
  clear hw3
  refine hK.out _ _ HS3.out (fun _ => ?_)
  clear hK K
  try simp only [Act.put, List.setIfInBounds_toArray, List.set_cons_zero, List.set_cons_succ, List.getElem_toArray, List.getElem_cons_succ, List.getElem_cons_zero]
  refine wpAnyH_ready (rs := [10]) (by as_aux_lemma => kernel_rfl) (by simp) ?_
  refine AllReadyH.cons rfl (fun K hK => ?_) AllReadyH.nil
  go_simp
  go_at_call 35
  refine (HEQ.out _ _ _ HY3.out (HZ3.out _ HB3.out)).mono ?_
  rintro e w4 ⟨rfl, rfl⟩
  refine hK.out _ _ HS3.out (fun _ => ?_)
  clear hK K
  try simp only [Act.put, List.setIfInBounds_toArray, List.set_cons_zero, List.set_cons_succ, List.getElem_toArray, List.getElem_cons_succ, List.getElem_cons_zero]
  refine wpAnyH_take (i := 11) (v := _) rfl (by as_aux_lemma => kernel_rfl) (by as_aux_lemma => kernel_rfl) (by as_aux_lemma => kernel_rfl) (fun _ _ _ h => h) (Or.inl ⟨by rfl, by intro w hSw; (try dsimp only at hSw); go_simp; try (with_reducible rfl)⟩) HS3.out ?_
  try simp only [Act.put, List.setIfInBounds_toArray, List.set_cons_zero, List.set_cons_succ, List.getElem_toArray, List.getElem_cons_succ, List.getElem_cons_zero]
  refine wpAnyH_take (i := 12) (v := _) rfl (by as_aux_lemma => kernel_rfl) (by as_aux_lemma => kernel_rfl) (by as_aux_lemma => kernel_rfl) (fun _ _ _ h => h) (Or.inl ⟨by rfl, by intro w hSw; (try dsimp only at hSw); go_simp; try (with_reducible rfl)⟩) HS3.out ?_
  try simp only [Act.put, List.setIfInBounds_toArray, List.set_cons_zero, List.set_cons_succ, List.getElem_toArray, List.getElem_cons_succ, List.getElem_cons_zero]
  refine wpAnyH_done (by as_aux_lemma => kernel_rfl) ?_ _
  have hmf : ∀ (fn : Fn) (first cap : Array Value) (w : World), (Instr.makeFunc fn first cap).run Tryz.prog w = .ok (.func fn first cap) w := fun _ _ _ _ => rfl
  obtain ⟨W1, hW1⟩ : ∃ W1, W1 = w4.alloc (.cells #[.slice none 0 0] 70) := ⟨_, rfl⟩
  obtain ⟨W2, hW2⟩ : ∃ W2, W2 = W1.alloc (.cells #[.bool false] 4) := ⟨_, rfl⟩
  have z1 : W1.heap.size = w4.heap.size + 1 := by rw [hW1]; simp
  have z2 : W2.heap.size = w4.heap.size + 2 := by rw [hW2, World.size_alloc, z1]
  have b42 : Below w4.heap.size w4 W2 := by rw [hW2, hW1]; exact ((Below.refl _ _).alloc (Nat.le_refl _) _).alloc (by simp) _
  have b02 : Below W0.heap.size W0 W2 := HB3.out.trans (below_le b42 HB3.out.size)
  have q3 : Box W2 w4.heap.size 70 (.slice none 0 0) := by
    have h : Box W1 w4.heap.size 70 (.slice none 0 0) := by rw [hW1]; exact heap_alloc_new _ _
    rw [hW2]; exact (heap_alloc_old _ _ (by rw [z1]; omega)).trans h
  have hnew : W2.heap[W1.heap.size]? = some (.cells #[.bool false] 4 (0, 0)) := by rw [hW2]; exact heap_alloc_new _ _
  have HTR : Hid (Calls Tryz.prog 36 #[.func (.func 37) #[] #[.pointer (some ⟨w.heap.size, 0, none⟩), .pointer (some ⟨w.heap.size + 1, 0, none⟩), .pointer (some ⟨w4.heap.size, 0, none⟩)]] W1 fun e w' => e = .returned (.bool true) ∧ ∃ w2,
      (∃ x cp cc, Box w2 w4.heap.size 70 (.slice (some ⟨x, 0, none⟩) 1 cp) ∧ w2.cell? ⟨x, 0, none⟩ = some (.int .u8 5) ∧ w2.cell? ⟨x, 1, none⟩ = some (.string ⟨#[97]⟩) ∧ w2.cell? ⟨x, 2, none⟩ = some (.slice (some ⟨g, 5, none⟩) 1 cc) ∧ W2.heap.size ≤ x ∧ (1 < cc ∧ cc ≤ 9223372036854775807) ∧ But [w4.heap.size] W2 w2) ∧ w' = w2.setCell ⟨W1.heap.size, 0, none⟩ (.bool true)) := Lib.hid (by
    refine tryE _ _ _ W1 _ ?_ ?_
    · rw [← hW2]
      exact exEntries1 w.heap.size (w.heap.size + 1) w4.heap.size g c W2 (HX1.out.kept HX1.out.lt b02) (HX2.out.kept HX2.out.lt b02) q3 (Nat.lt_of_lt_of_le HG.out (Nat.le_trans HB0.out.size b02.size)) HM.out.1 HM.out.2 (fun i hi => by rw [HCW.out W2 b02 i (by omega), ex10_six i hi])
    · rintro w' ⟨_, _, _, _, _, _, _, _, _, hb⟩
      exact hb.heap hnew (by simp; omega))
  have HW2 : Hid (Below w.heap.size w W2 ∧ W2.heap.size = w4.heap.size + 2 ∧ W1.heap.size = w4.heap.size + 1 ∧ w.heap.size ≤ w4.heap.size) := Lib.hid ⟨HB0.out.trans (below_le b02 HB0.out.size), z2, z1, Nat.le_trans HB0.out.size HB3.out.size⟩
  have HW1 := Lib.hid hW1
  clear z1 z2 b42 b02 q3 hnew hW2 hW1
  go_wp2_with (first | (go_at_call 36; fail))
  rw [← HW1.out]
  refine HTR.out.mono ?_
  rintro e w5 ⟨rfl, w6, ⟨x, cp, cc, q1, q2, q3, q4, q5, q7, q6⟩, rfl⟩
  have hx : x ≠ W1.heap.size := by have := HW2.out; omega
  have hb : w4.heap.size ≠ W1.heap.size := by have := HW2.out; omega
  have o1 : ∀ j v, w6.cell? ⟨x, j, none⟩ = some v → (w6.setCell ⟨W1.heap.size, 0, none⟩ (.bool true)).cell? ⟨x, j, none⟩ = some v := fun j v h => by
    have e : (w6.setCell ⟨W1.heap.size, 0, none⟩ (.bool true)).heap[x]? = w6.heap[x]? := set_other hx
    simp only [World.cell?] at h ⊢
    rw [e]; exact h
  have HX : Hid (_ ∧ _ ∧ _ ∧ _ ∧ _ ∧ _) := Lib.hid ⟨o1 _ _ q2, o1 _ _ q3, o1 _ _ q4,
    (show x < (w6.setCell ⟨W1.heap.size, 0, none⟩ (.bool true)).heap.size by
      have h6 : x < w6.heap.size := World.block_lt_of_cell? w6 _ q2
      simpa using h6), q7,
    (show Below w.heap.size w (w6.setCell ⟨W1.heap.size, 0, none⟩ (.bool true)) from
      (HW2.out.1.trans (q6.toBelow HW2.out.1.size (fun j hj => by have h : j = w4.heap.size := (by simpa using hj); have := HW2.out; omega))).setCell (p := ⟨W1.heap.size, 0, none⟩) (show w.heap.size ≤ W1.heap.size by have := HW2.out; omega) _)⟩
  have c5 : (w6.setCell ⟨W1.heap.size, 0, none⟩ (.bool true)).cell? ⟨w4.heap.size, 0, none⟩ = some (.slice (some ⟨x, 0, none⟩) 1 cp) := Box.cell (t := 70) ((set_other hb).trans q1)
  clear q1 q2 q3 q4 q5 q6 hx hb o1 HTR HW2 HW1
  generalize w6.setCell ⟨W1.heap.size, 0, none⟩ (.bool true) = w7 at HX c5 ⊢
  go_wp2_with fail
  go_ret2
  exact ⟨x, cp, cc, rfl, HX⟩
end Go.Proofs.YtdomglkcfecnnaaGreat
/- Walk: a value's bytes, of the page's example. -/
namespace Go.Proofs.YtdomglkcfecnnaaGreat
open Go.RowKit Go.Shelf
attribute [local go_sem] run_store_float
/-- The value whose bytes are told. -/
def oneV : Array Value := #[.string ⟨#[]⟩, .int .i64 0, .bool true, .slice none 0 0, .float .f64 0]
set_option maxRecDepth 100000 in
set_option maxHeartbeats 2000000 in
theorem bValue (F : FL) (hk : F.k = 5) (w : World) : Calls Tryz.prog 27 #[F.v, .agg oneV] w fun e w' => e = .returned (.slice (some ⟨w.heap.size + 2, 0, none⟩) 1 1) ∧
    w' = ((w.alloc (.cells F.a 66)).alloc (.cells oneV 62)).alloc (.cells #[u8V 1] 5) := by
  obtain ⟨k, nm, lb, xo, no, co, mn, mx, lo, hi, st, ds, dn, db, xl, nl, cl, df, sh, ck⟩ := F
  dsimp only at hk
  subst hk
  unfold FL.v FL.a oneV
  dsimp only
  go_enter Tryz.func27, Tryz.ntmps27
  go_wp2
  go_ret
  exact ⟨rfl, rfl⟩
end Go.Proofs.YtdomglkcfecnnaaGreat
/- Walks: the value that bytes look like, of the page's example. -/
namespace Go.Proofs.YtdomglkcfecnnaaGreat
open Go Go.RowKit Go.Shelf
attribute [local go_sem] run_store_float
/-- A value's variable. -/
def VLBx (W : World) (b : Nat) (a0 a1 a2 a3 a4 : Value) : Prop := W.heap[b]? = some (.cells #[a0, a1, a2, a3, a4] 62 (0, 0))
theorem VLBx.cells {W : World} {b : Nat} {a0 a1 a2 a3 a4 : Value} (h : VLBx W b a0 a1 a2 a3 a4) : W.cell? ⟨b, 0, none⟩ = some a0 ∧ W.cell? ⟨b, 1, none⟩ = some a1 ∧ W.cell? ⟨b, 2, none⟩ = some a2 ∧ W.cell? ⟨b, 3, none⟩ = some a3 ∧ W.cell? ⟨b, 4, none⟩ = some a4 ∧ (∀ o, W.frozen? ⟨b, o, none⟩ = false) ∧ b < W.heap.size := by
  unfold VLBx at h
  refine ⟨?_, ?_, ?_, ?_, ?_, fun o => ?_, (Array.getElem?_eq_some_iff.1 h).1⟩ <;> simp [World.cell?, World.frozen?, h]
/-- All five cells, set. -/
def putV5 (W : World) (b : Nat) (a0 a1 a2 a3 a4 : Value) : World := ((((W.setCell ⟨b, 0, none⟩ a0).setCell ⟨b, 1, none⟩ a1).setCell ⟨b, 2, none⟩ a2).setCell ⟨b, 3, none⟩ a3).setCell ⟨b, 4, none⟩ a4
theorem putV5_blk {W : World} {b : Nat} {a0 a1 a2 a3 a4 : Value} (h : VLBx W b a0 a1 a2 a3 a4) (b0 b1 b2 b3 b4 : Value) : VLBx (putV5 W b b0 b1 b2 b3 b4) b b0 b1 b2 b3 b4 := by
  unfold VLBx putV5
  unfold VLBx at h
  have h0 := set_block (o := 0) h b0
  have h1 := set_block (o := 1) h0 b1
  have h2 := set_block (o := 2) h1 b2
  have h3 := set_block (o := 3) h2 b3
  have h4 := set_block (o := 4) h3 b4
  simpa using h4
theorem putV5_below {w W : World} {n b : Nat} (h : Below n w W) (hb : n ≤ b) (a0 a1 a2 a3 a4 : Value) : Below n w (putV5 W b a0 a1 a2 a3 a4) :=
  ((((h.setCell (show n ≤ (⟨b, 0, none⟩ : Addr).block from hb) _).setCell (show n ≤ (⟨b, 1, none⟩ : Addr).block from hb) _).setCell (show n ≤ (⟨b, 2, none⟩ : Addr).block from hb) _).setCell (show n ≤ (⟨b, 3, none⟩ : Addr).block from hb) _).setCell (show n ≤ (⟨b, 4, none⟩ : Addr).block from hb) _
theorem putV5_other {W : World} {b j : Nat} (h : j ≠ b) (a0 a1 a2 a3 a4 : Value) : (putV5 W b a0 a1 a2 a3 a4).heap[j]? = W.heap[j]? := by
  unfold putV5
  rw [set_other h, set_other h, set_other h, set_other h, set_other h]
theorem raw_facts {w w1 : World} {o1 o3 : Obj} {a0 a1 a2 a3 a4 v : Value} {g o : Nat} (hb : But [w.heap.size + 1 + 1] (((w.alloc o1).alloc (.cells #[a0, a1, a2, a3, a4] 62)).alloc o3) w1) (hg : g < w.heap.size) (hc : w.cell? ⟨g, o, none⟩ = some v) :
    VLBx w1 (w.heap.size + 1) a0 a1 a2 a3 a4 ∧ w1.cell? ⟨g, o, none⟩ = some v ∧ Below w.heap.size w w1 := by
  have h3 : Below w.heap.size w (((w.alloc o1).alloc (.cells #[a0, a1, a2, a3, a4] 62)).alloc o3) := (((Below.refl _ _).alloc (Nat.le_refl _) _).alloc (by simp) _).alloc (by simp; omega) _
  have hv : VLBx (((w.alloc o1).alloc (.cells #[a0, a1, a2, a3, a4] 62)).alloc o3) (w.heap.size + 1) a0 a1 a2 a3 a4 := (heap_alloc_old _ _ (by simp)).trans (alloc_new1 w _ _)
  exact ⟨hb.heap hv (by simp), hb.keepB (Nat.lt_of_lt_of_le hg h3.size) (by simp; omega) ((h3.cell (p := ⟨g, o, none⟩) hg).trans hc), h3.trans (hb.toBelow h3.size (fun j hj => by have h : j = w.heap.size + 1 + 1 := (by simpa using hj); omega))⟩
set_option maxRecDepth 100000 in
set_option maxHeartbeats 4000000 in
theorem exRaw (F : FL) (hk : F.k = 5) (g o cc : Nat) (w : World) (hg : g < w.heap.size) (hc : 1 < cc) (hm : cc ≤ 9223372036854775807) (hb : w.cell? ⟨g, o, none⟩ = some (.int .u8 1)) :
    Calls Tryz.prog 42 #[F.v, .slice (some ⟨g, o, none⟩) 1 cc] w fun e w' => e = .returned (.agg exVa) ∧ Below w.heap.size w w' := by
  obtain ⟨k, nm, lb, xo, no, co, mn, mx, lo, hi, st, ds, dn, db, xl, nl, cl, df, sh, ck⟩ := F
  dsimp only at hk
  subst hk
  have HB := Lib.hid hb
  have HG := Lib.hid hg
  have HC := Lib.hid (And.intro hc hm)
  clear hb hc hm hg
  unfold FL.v FL.a
  dsimp only
  go_enter Tryz.func42, Tryz.ntmps42
  go_wp2_with (first | (go_at_call 39; fail))
  go_at_call 39
  refine (wTake _ g o 1 cc 1 _ (alloc_new2 w _ _ _) (Nat.le_refl _) HC.out.1 HC.out.2).mono ?_
  rintro e w1 ⟨rfl, hr1, hb1⟩
  obtain ⟨hv1, hc1, hB1⟩ := raw_facts hb1 HG.out HB.out
  have HV1 := Lib.hid hv1
  have HB1 := Lib.hid hB1
  obtain ⟨v0, v1, v2, v3, v4, vf, vl⟩ := hv1.cells
  have f0 := vf 0
  have f1 := vf 1
  have f2 := vf 2
  have f3 := vf 3
  have f4 := vf 4
  clear hr1 hb1 hv1 hB1 vf
  go_wp2_with fail
  refine bodyPost_ret (results_cell rfl _ _ (w.heap.size + 1) 62 _ (0, 0) _ rfl (putV5_blk HV1.out _ _ _ _ _) Tryz.underlying62 rfl (by kernel_rfl)) rfl ⟨rfl, putV5_below HB1.out (by omega) _ _ _ _ _⟩
end Go.Proofs.YtdomglkcfecnnaaGreat
