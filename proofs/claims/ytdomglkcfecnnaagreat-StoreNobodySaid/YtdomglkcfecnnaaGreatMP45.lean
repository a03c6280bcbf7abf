/- Own texts, merged: Y6. -/
import Derived.Deep.RegionHeld3
import Derived.Test.YtdomglkcfecnnaaGreatMP41
import Derived.Test.YtdomglkcfecnnaaGreatMP44
/- Walk: Encode, of the page's example. -/
namespace Go.Proofs.YtdomglkcfecnnaaGreat
open Go Go.RowKit Go.Shelf
attribute [local go_sem] run_store_float
def exDa (q : Nat) : Array Value := #[.string ⟨#[]⟩, .slice (some ⟨q, 0, none⟩) 1 1, .slice none 0 0, .int .i64 1]
def FLz : FL := ⟨0, ⟨#[]⟩, ⟨#[]⟩, none, 0, 0, 0, 0, 0, 0, 0, ⟨#[]⟩, 0, false, none, 0, 0, 0, ⟨#[]⟩, ⟨#[]⟩⟩
/-- What stands below while Encode, Decode and fits run: the form's box, the field, the values. -/
structure EXI (q r S : Nat) (W : World) : Prop where
  f : FLB W q exBL
  v : W.heap[r]? = some (.cells exVa 62 (0, 0))
  d : W.heap[S]? = some (.cells (exDa q) 27 (0, 0))
theorem EXI.below {q r S : Nat} {W W' : World} (h : EXI q r S W) (hb : Below W.heap.size W W') : EXI q r S W' :=
  ⟨h.f.below hb, (hb.block _ (Array.getElem?_eq_some_iff.1 h.v).1).trans h.v, (hb.block _ (Array.getElem?_eq_some_iff.1 h.d).1).trans h.d⟩
theorem EXI.vc {q r S : Nat} {W : World} (h : EXI q r S W) : W.cell? ⟨r, 0, none⟩ = some (.string ⟨#[]⟩) ∧ W.cell? ⟨r, 1, none⟩ = some (.int .i64 0) ∧ W.cell? ⟨r, 2, none⟩ = some (.bool true) ∧ W.cell? ⟨r, 3, none⟩ = some (.slice none 0 0) ∧ W.cell? ⟨r, 4, none⟩ = some (.float .f64 0) := by
  have := h.v
  simp [World.cell?, this, exVa]
theorem EXI.dc {q r S : Nat} {W : World} (h : EXI q r S W) : W.cell? ⟨S, 1, none⟩ = some (.slice (some ⟨q, 0, none⟩) 1 1) := by
  have := h.d
  simp [World.cell?, this, exDa]
/-- A row that is owned stands on while nothing old turns. -/
theorem own_keep {w w' : World} {base n : Nat} {v : Value} {xs : List Value} {e : TypeId} (h : w.ownsRow base e 1 v n xs) (hb : Below w.heap.size w w') : w'.ownsRow base e 1 v n xs := by
  rcases h.2 with ⟨hv, h0⟩ | ⟨g, cap, cur, hv, hg, hcur, h1, h2, h3, h4⟩
  · exact ⟨h.1, .inl ⟨hv, h0⟩⟩
  · exact ⟨h.1, .inr ⟨g, cap, cur, hv, hg, (hb.block g (Array.getElem?_eq_some_iff.1 hcur).1).trans hcur, h1, h2, h3, h4⟩⟩
theorem own_slice {w : World} {base n : Nat} {v : Value} {xs : List Value} {e : TypeId} (h : w.ownsRow base e 1 v n xs) (hn : 0 < n) : ∃ g c, v = .slice (some ⟨g, 0, none⟩) n c ∧ base ≤ g ∧ n ≤ c := by
  rcases h.2 with ⟨hv, h0⟩ | ⟨g, cap, cur, hv, hg, hcur, h1, h2, h3, h4⟩
  · omega
  · exact ⟨g, cap, hv, hg, h1⟩
theorem own_BV {w : World} {base n g c : Nat} {l : List UInt8} (h : w.ownsRow base 5 1 (.slice (some ⟨g, 0, none⟩) n c) n (l.map u8V)) : BV w (some ⟨g, 0, none⟩) l := fun hp => by
  have hl : l.length = n := by have := h.1; simpa using this
  refine ⟨g, 0, rfl, (h.lt g rfl).2, fun i hi => ?_⟩
  rw [Nat.zero_add, h.cellAt i (by omega)]
  simp [hi, u8V]
theorem not_ob {w : World} {base n b : Nat} {v : Value} {xs : List Value} {e : TypeId} (h : w.ownsRow base e 1 v n xs) (hb : w.heap.size ≤ b) : b ∉ ob v := fun hq => by
  have := (h.lt b (mem_ob.1 hq)).2
  omega
theorem own_weakB {w : World} {b b' n : Nat} {v : Value} {xs : List Value} {e : TypeId} (h : w.ownsRow b e 1 v n xs) (hb : b' ≤ b) : w.ownsRow b' e 1 v n xs := by
  refine ⟨h.1, h.2.imp id ?_⟩
  rintro ⟨g, cap, cur, h1, h2, h3⟩
  exact ⟨g, cap, cur, h1, Nat.le_trans hb h2, h3⟩
/-- Encode's second loop: the bytes so far, the field's variable. -/
structure STE (w : World) (q r n b : Nat) (W : World) (v : Value) (bs : List UInt8) : Prop where
  own : W.ownsRow n 5 1 v bs.length (bs.map u8V)
  fb : FLB W b exBL
  nb : b ∉ ob v
  ex : EXI q r w.heap.size W
  lt : q < n ∧ r < n ∧ w.heap.size < n
  bel : Below w.heap.size w W
  sz : n ≤ W.heap.size
theorem STE.below {w : World} {q r n b : Nat} {W W' : World} {v : Value} {bs : List UInt8} (h : STE w q r n b W v bs) (hb : Below W.heap.size W W') : STE w q r n b W' v bs :=
  ⟨own_keep h.own hb, h.fb.below hb, h.nb, h.ex.below hb, h.lt, h.bel.trans (below_le hb h.bel.size), Nat.le_trans h.sz hb.size⟩
theorem STE.grew {w : World} {q r n b : Nat} {W W' : World} {v v' : Value} {bs cs : List UInt8} (h : STE w q r n b W v bs) (hg : Grew n v cs W v' W') : STE w q r n b W' v' cs := by
  have hb : Below n W W' := hg.below h.own h.sz (Nat.le_refl _)
  refine ⟨hg.own, hg.but.heap h.fb h.nb, fun hq => ?_, ⟨?_, ?_, ?_⟩, h.lt, h.bel.trans (below_le hb (Nat.le_of_lt h.lt.2.2)), Nat.le_trans h.sz hb.size⟩
  · rcases hg.at' b (mem_ob.1 hq) with e | e
    · exact h.nb (mem_ob.2 e)
    · have := h.fb.lt; omega
  · exact (hb.block _ h.lt.1).trans h.ex.f
  · exact (hb.block _ h.lt.2.1).trans h.ex.v
  · exact (hb.block _ h.lt.2.2).trans h.ex.d
theorem STE.see {w : World} {q r n b : Nat} {W : World} {v : Value} {bs : List UInt8} (h : STE w q r n b W v bs) : FLC W b 0 exBL ∧ W.cell? ⟨r, 0, none⟩ = some (.string ⟨#[]⟩) ∧ W.cell? ⟨r, 1, none⟩ = some (.int .i64 0) ∧ W.cell? ⟨r, 2, none⟩ = some (.bool true) ∧ W.cell? ⟨r, 3, none⟩ = some (.slice none 0 0) ∧ W.cell? ⟨r, 4, none⟩ = some (.float .f64 0) :=
  ⟨h.fb.flc, h.ex.vc⟩
/-- What value leaves: its variables and the bytes told. -/
def vW (w : World) : World := ((w.alloc (.cells exBL.a 66)).alloc (.cells oneV 62)).alloc (.cells #[u8V 1] 5)
theorem vW_below (w : World) : Below w.heap.size w (vW w) := (((Below.refl _ _).alloc (Nat.le_refl _) _).alloc (by simp) _).alloc (by simp; omega) _
theorem vW_size (w : World) : (vW w).heap.size = w.heap.size + 3 := by simp [vW]
theorem vW_new (w : World) : (vW w).cell? ⟨w.heap.size + 2, 0, none⟩ = some (u8V 1) := by
  have := Box.cell (heap_alloc_new ((w.alloc (.cells exBL.a 66)).alloc (.cells oneV 62)) (.cells #[u8V 1] 5))
  simpa [vW] using this
set_option maxRecDepth 100000 in
set_option maxHeartbeats 8000000 in
theorem exEncode (q r : Nat) (w : World) (hck : ∀ W, FLB W q exBL → Calls Tryz.prog 19 #[.agg (exDa q)] W fun e w' => e = .returned (.tuple #[.int .i64 (-1), .int .i64 0]) ∧ Below W.heap.size W w') (hq : FLB w q exBL) (hr : w.heap[r]? = some (.cells exVa 62 (0, 0))) :
    Calls Tryz.prog 16 #[.agg (exDa q), .slice (some ⟨r, 0, none⟩) 1 1] w fun e w' => ∃ g c, e = .returned (.tuple #[.slice (some ⟨g, 0, none⟩) 10 c, .int .i64 0]) ∧
      Hid (w'.ownsRow w.heap.size 5 1 (.slice (some ⟨g, 0, none⟩) 10 c) 10 (([1, 5, 1, 97, 1, 1] ++ sumS [1, 5, 1, 97, 1, 1]).map u8V) ∧ Below w.heap.size w w') := by
  have hb0 : Below w.heap.size w (w.alloc (.cells (exDa q) 27)) := (Below.refl _ _).alloc (Nat.le_refl _) _
  have HI0 : Hid (EXI q r w.heap.size (w.alloc (.cells (exDa q) 27))) := Lib.hid ⟨hq.below hb0, (hb0.block _ (Array.getElem?_eq_some_iff.1 hr).1).trans hr, heap_alloc_new _ _⟩
  have HB0 := Lib.hid hb0
  have HCK : Hid (∀ W, EXI q r w.heap.size W → Calls Tryz.prog 19 #[.agg (exDa q)] W fun e w' => e = .returned (.tuple #[.int .i64 (-1), .int .i64 0]) ∧ Below W.heap.size W w') := Lib.hid (fun W h => hck W h.f)
  clear hq hr hb0 hck
  unfold exDa at HI0 HB0 HCK ⊢
  go_enter Tryz.func16, Tryz.ntmps16
  go_wp2_with (first | (go_at_call 19; fail))
  go_at_call 19
  refine (HCK.out _ HI0.out).mono ?_
  rintro e w1 ⟨rfl, hb1⟩
  have HI1 := Lib.hid (HI0.out.below hb1)
  have HB1 := Lib.hid (HB0.out.trans (below_le hb1 HB0.out.size))
  have hS1 : w.heap.size < w1.heap.size := Nat.lt_of_lt_of_le (by simp) hb1.size
  have hdc := HI1.out.dc
  clear hb1 HI0 HB0
  go_wp2_with fail
  refine wp_loop_rounds 2 ?_
  rw [rounds_succ]
  have HF0 : Hid (FLC w1 q 0 exBL) := Lib.hid HI1.out.f.flc
  have HZ1 : Hid (FLB (w1.alloc (.cells #[.int .i64 0, .string ⟨#[]⟩, .string ⟨#[]⟩, .slice none 0 0, .int .i64 0, .int .i64 0, .float .f64 0, .float .f64 0, .float .f64 0, .string ⟨#[]⟩, .int .i64 0, .bool false, .slice none 0 0, .float .f64 0, .string ⟨#[]⟩, .string ⟨#[]⟩] 66)) w1.heap.size FLz) := Lib.hid (heap_alloc_new _ _)
  go_upto_region 9 with (first | ((with_reducible refine wpList_ldF (F := exBL) (b := q) (q := 0) rfl rfl ?_ HF0.out ?_); rfl) | ((with_reducible refine wpList_stF (F := exBL) (G := FLz) (b := w1.heap.size) rfl rfl ?_ ?_ HZ1.out ?_); rfl; rfl))
  have hF1 := HZ1.out.row exBL
  have hF2 : Below w1.heap.size w1 ((w1.alloc (.cells #[.int .i64 0, .string ⟨#[]⟩, .string ⟨#[]⟩, .slice none 0 0, .int .i64 0, .int .i64 0, .float .f64 0, .float .f64 0, .float .f64 0, .string ⟨#[]⟩, .int .i64 0, .bool false, .slice none 0 0, .float .f64 0, .string ⟨#[]⟩, .string ⟨#[]⟩] 66)).setRow w1.heap.size exBL.a) := below_setRow ((Below.refl _ _).alloc (Nat.le_refl _) _) (Nat.le_refl _) _
  generalize (w1.alloc (.cells #[.int .i64 0, .string ⟨#[]⟩, .string ⟨#[]⟩, .slice none 0 0, .int .i64 0, .int .i64 0, .float .f64 0, .float .f64 0, .float .f64 0, .string ⟨#[]⟩, .int .i64 0, .bool false, .slice none 0 0, .float .f64 0, .string ⟨#[]⟩, .string ⟨#[]⟩] 66)).setRow w1.heap.size exBL.a = W2 at hF1 hF2 ⊢
  have HI2 := Lib.hid (HI1.out.below hF2)
  have HB2 := Lib.hid (HB1.out.trans (below_le hF2 HB1.out.size))
  have HSC : Hid (∀ W, Below W2.heap.size W2 W → FLC W w1.heap.size 0 exBL ∧ W.cell? ⟨r, 0, none⟩ = some (.string ⟨#[]⟩) ∧ W.cell? ⟨r, 1, none⟩ = some (.int .i64 0) ∧ W.cell? ⟨r, 2, none⟩ = some (.bool true) ∧ W.cell? ⟨r, 3, none⟩ = some (.slice none 0 0) ∧ W.cell? ⟨r, 4, none⟩ = some (.float .f64 0)) := Lib.hid (fun W hW => ⟨(hF1.below hW).flc, (HI2.out.below hW).vc⟩)
  have HS0 := Lib.hid (HSC.out _ (Below.refl _ _).drew)
  have HVA := Lib.hid (fun W => exValue W)
  unfold exVa at HVA
  clear hF1 hF2 HF0 HZ1
  refine wp_region_held (S := (fun W => FLC W w1.heap.size 0 exBL ∧ W.cell? ⟨r, 0, none⟩ = some (.string ⟨#[]⟩) ∧ W.cell? ⟨r, 1, none⟩ = some (.int .i64 0) ∧ W.cell? ⟨r, 2, none⟩ = some (.bool true) ∧ W.cell? ⟨r, 3, none⟩ = some (.slice none 0 0) ∧ W.cell? ⟨r, 4, none⟩ = some (.float .f64 0))) (by as_aux_lemma => kernel_rfl) ?_
  change wpAnyH _ _ _ _ _ _ _ _ (World.drew _)
  refine wpAnyH_take (i := 0) (v := exBL.v) rfl (by as_aux_lemma => kernel_rfl) (by as_aux_lemma => kernel_rfl) (by as_aux_lemma => kernel_rfl) (fun _ _ _ h => h) (yieldsF rfl rfl rfl (fun w h => h.1)) HS0.out ?_
  try simp only [Act.put, List.setIfInBounds_toArray, List.set_cons_zero, List.set_cons_succ, List.getElem_toArray, List.getElem_cons_zero]
  refine wpAnyH_take (i := 1) (v := _) rfl (by as_aux_lemma => kernel_rfl) (by as_aux_lemma => kernel_rfl) (by as_aux_lemma => kernel_rfl) (fun _ _ _ h => h) (Or.inl ⟨by rfl, by intro w hSw; (try dsimp only at hSw); go_simp; try (with_reducible rfl)⟩) HS0.out ?_
  try simp only [Act.put, List.setIfInBounds_toArray, List.set_cons_zero, List.set_cons_succ, List.getElem_toArray, List.getElem_cons_succ, List.getElem_cons_zero]
  refine wpAnyH_take (i := 2) (v := _) rfl (by as_aux_lemma => kernel_rfl) (by as_aux_lemma => kernel_rfl) (by as_aux_lemma => kernel_rfl) (fun _ _ _ h => h) (Or.inl ⟨by rfl, by intro w hSw; (try dsimp only at hSw); go_simp; try (with_reducible rfl)⟩) HS0.out ?_
  try simp only [Act.put, List.setIfInBounds_toArray, List.set_cons_zero, List.set_cons_succ, List.getElem_toArray, List.getElem_cons_succ, List.getElem_cons_zero]
  refine wpAnyH_take (i := 3) (v := _) rfl (by as_aux_lemma => kernel_rfl) (by as_aux_lemma => kernel_rfl) (by as_aux_lemma => kernel_rfl) (fun _ _ _ h => h) (Or.inl ⟨by rfl, by intro w hSw; (try dsimp only at hSw); go_simp; try (with_reducible rfl)⟩) HS0.out ?_
  try simp only [Act.put, List.setIfInBounds_toArray, List.set_cons_zero, List.set_cons_succ, List.getElem_toArray, List.getElem_cons_succ, List.getElem_cons_zero]
  refine wpAnyH_take (i := 4) (v := _) rfl (by as_aux_lemma => kernel_rfl) (by as_aux_lemma => kernel_rfl) (by as_aux_lemma => kernel_rfl) (fun _ _ _ h => h) (Or.inl ⟨by rfl, by intro w hSw; (try dsimp only at hSw); go_simp; try (with_reducible rfl)⟩) HS0.out ?_
  try simp only [Act.put, List.setIfInBounds_toArray, List.set_cons_zero, List.set_cons_succ, List.getElem_toArray, List.getElem_cons_succ, List.getElem_cons_zero]
  refine wpAnyH_ready (rs := [5]) (by as_aux_lemma => kernel_rfl) (by simp) ?_
  refine AllReadyH.cons rfl (fun K hK => ?_) AllReadyH.nil
  go_simp
  go_at_call 26
  refine (HVA.out _).mono ?_
  rintro e w3 ⟨rfl, hb3⟩
  have HB3 : Hid (Below W2.heap.size W2 w3) := Lib.hid ((Below.refl _ _).drew.trans hb3)
  have HS3 := Lib.hid (HSC.out _ HB3.out)
  clear hb3
  refine hK.out _ _ HS3.out (fun _ => ?_)
  clear hK K
  try simp only [Act.put, List.setIfInBounds_toArray, List.set_cons_zero, List.set_cons_succ, List.getElem_toArray, List.getElem_cons_succ, List.getElem_cons_zero]
  refine wpAnyH_take (i := 6) (v := _) rfl (by as_aux_lemma => kernel_rfl) (by as_aux_lemma => kernel_rfl) (by as_aux_lemma => kernel_rfl) (fun _ _ _ h => h) (Or.inl ⟨by rfl, by intro w hSw; (try dsimp only at hSw); go_simp; try (with_reducible rfl)⟩) HS3.out ?_
  try simp only [Act.put, List.setIfInBounds_toArray, List.set_cons_zero, List.set_cons_succ, List.getElem_toArray, List.getElem_cons_succ, List.getElem_cons_zero]
  refine wpAnyH_done (by as_aux_lemma => kernel_rfl) ?_ _
  have HI3 := Lib.hid (HI2.out.below HB3.out)
  have HLT : Hid (q < w3.heap.size ∧ r < w3.heap.size ∧ w.heap.size < w3.heap.size) := Lib.hid ⟨HI3.out.f.lt, (Array.getElem?_eq_some_iff.1 HI3.out.v).1, (Array.getElem?_eq_some_iff.1 HI3.out.d).1⟩
  have HB4 := Lib.hid (HB2.out.trans (below_le HB3.out HB2.out.size))
  have hdc3 := HI3.out.dc
  clear HSC HS0 HS3 HI2 HB2 HI1 HB1 hdc hS1
  go_wp2_with fail
  rw [rounds_succ]
  go_wp2_with (first | (go_at_call 25; fail))
  refine (wNumber w3.heap.size (.slice none 0 0) [] 1 w3 (World.ownsRow_nil _ _ _ _) (Nat.le_refl _) (by simp) (by omega)).mono ?_
  rintro e w4 ⟨v4, rfl, hG4⟩
  have hb4 : Below w3.heap.size w3 w4 := hG4.below (bs := []) (World.ownsRow_nil _ _ _ _) (Nat.le_refl _) (Nat.le_refl _)
  have HO4 : Hid (w4.ownsRow w3.heap.size 5 1 v4 1 ([byB 1].map u8V)) := Lib.hid hG4.own
  have HI4 := Lib.hid (HI3.out.below hb4)
  have HB5 := Lib.hid (HB4.out.trans (below_le hb4 HB4.out.size))
  have hz3 : w3.heap.size ≤ w4.heap.size := hb4.size
  have hz0 : w.heap.size ≤ w3.heap.size := HB4.out.size
  have hdc4 := HI4.out.dc
  clear hG4 hb4 hdc3 HI3 HB4 HB3
  go_wp2_with fail
  refine wp_loop_rounds 2 ?_
  rw [rounds_succ]
  have HF4 : Hid (FLC w4 q 0 exBL) := Lib.hid HI4.out.f.flc
  have HZ4 : Hid (FLB (w4.alloc (.cells #[.int .i64 0, .string ⟨#[]⟩, .string ⟨#[]⟩, .slice none 0 0, .int .i64 0, .int .i64 0, .float .f64 0, .float .f64 0, .float .f64 0, .string ⟨#[]⟩, .int .i64 0, .bool false, .slice none 0 0, .float .f64 0, .string ⟨#[]⟩, .string ⟨#[]⟩] 66)) w4.heap.size FLz) := Lib.hid (heap_alloc_new _ _)
  go_upto_region 16 with (first | ((with_reducible refine wpList_ldF (F := exBL) (b := q) (q := 0) rfl rfl ?_ HF4.out ?_); rfl) | ((with_reducible refine wpList_stF (F := exBL) (G := FLz) (b := w4.heap.size) rfl rfl ?_ ?_ HZ4.out ?_); rfl; rfl))
  have hF5 := HZ4.out.row exBL
  have hF6 : Below w4.heap.size w4 ((w4.alloc (.cells #[.int .i64 0, .string ⟨#[]⟩, .string ⟨#[]⟩, .slice none 0 0, .int .i64 0, .int .i64 0, .float .f64 0, .float .f64 0, .float .f64 0, .string ⟨#[]⟩, .int .i64 0, .bool false, .slice none 0 0, .float .f64 0, .string ⟨#[]⟩, .string ⟨#[]⟩] 66)).setRow w4.heap.size exBL.a) := below_setRow ((Below.refl _ _).alloc (Nat.le_refl _) _) (Nat.le_refl _) _
  generalize (w4.alloc (.cells #[.int .i64 0, .string ⟨#[]⟩, .string ⟨#[]⟩, .slice none 0 0, .int .i64 0, .int .i64 0, .float .f64 0, .float .f64 0, .float .f64 0, .string ⟨#[]⟩, .int .i64 0, .bool false, .slice none 0 0, .float .f64 0, .string ⟨#[]⟩, .string ⟨#[]⟩] 66)).setRow w4.heap.size exBL.a = W5 at hF5 hF6 ⊢
  have HT5 : Hid (STE w q r w3.heap.size w4.heap.size W5 v4 [byB 1]) := Lib.hid ⟨own_keep HO4.out hF6, hF5, not_ob HO4.out (Nat.le_refl _), HI4.out.below hF6, HLT.out, HB5.out.trans (below_le hF6 HB5.out.size), Nat.le_trans hz3 hF6.size⟩
  have hz5 : w3.heap.size ≤ W5.heap.size := HT5.out.sz
  have HO5 : Hid (W5.ownsRow w3.heap.size 5 1 v4 1 ([byB 1].map u8V)) := Lib.hid HT5.out.own
  obtain ⟨k0, k1, _⟩ := hF5.cells
  dsimp only [exBL, Fld.fl, exB] at k0 k1
  clear hF5 hF6 HF4 HZ4 HO4 HI4 HB5 hdc4 HLT
  obtain ⟨i0, hi0, hx0, hx1, hx2⟩ := info_parts5
  have HNI := Lib.hid hi0
  have HX0 := Lib.hid hx0
  have HX1 := Lib.hid hx1
  have HX2 := Lib.hid hx2
  clear hi0 hx0 hx1 hx2
  go_upto_region 17 with (first | (at_builtin; go_loud (refine wpList_append_own_at _ rfl _ _ 37 rfl w3.heap.size 5 i0 (.int .u8 0) 1 1 Tryz.underlying37 HNI.out HX0.out HX1.out HX2.out rfl (by decide) _ _ _ rfl (HO5.out.alloc _) ⟨W5.heap.size, 0, none⟩ 1 1 [.int .u8 5] rfl rfl (cell_one_new _ _ _) (by intro u hu; simp at hu; subst hu; rfl) (by unfold maxLen; omega) (by omega) (by simp; omega) ?_); intro v6 w6 hown6 hgrow6 hnil6 hat6; have HG6 : Hid (Grew w3.heap.size v4 ([byB 1] ++ [5]) W5 v6 w6) := Lib.hid (grew_one rfl hown6 hgrow6 hat6); clear hown6 hgrow6 hnil6 hat6))
  have HT6 := Lib.hid (HT5.out.grew HG6.out)
  obtain ⟨_, k1, _⟩ := HT6.out.fb.cells
  dsimp only [exBL, Fld.fl, exB] at k1
  obtain ⟨cp7, W7, hcv7, hcl7, hba7, hbl7, hbs7⟩ := conv_bytes w6 [97]
  have HT7 := Lib.hid (HT6.out.below hbl7)
  have HX7 : Hid (BVN W7 (ob v6) (some ⟨w6.heap.size, 0, none⟩) [97]) := Lib.hid (fun _ => ⟨w6.heap.size, 0, rfl, by omega, not_ob HT6.out.own (Nat.le_refl _), fun i hi => by
    obtain rfl : i = 0 := by simp at hi; omega
    exact hba7 0 (by simp)⟩)
  clear hcl7 hba7 hbl7 hbs7
  clear HG6 HO5 HT5 HT6 k0
  go_upto_region 18 with (first | (go_at_call 15; refine (wText w3.heap.size v6 ([byB 1] ++ [5]) [97] (some ⟨w6.heap.size, 0, none⟩) cp7 _ HT7.out.own HT7.out.sz (by simp) (by simp) (by simp) HX7.out).mono ?_; rintro e w8 ⟨v8, rfl, hG8⟩; have HT8 := Lib.hid (HT7.out.grew hG8); clear hG8))
  have HS0 := Lib.hid ((HT8.out.below (Below.refl _ _).drew).see)
  clear hcv7 HT7 HX7 k1
  refine wp_region_held (S := (fun W => FLC W w4.heap.size 0 exBL ∧ W.cell? ⟨r, 0, none⟩ = some (.string ⟨#[]⟩) ∧ W.cell? ⟨r, 1, none⟩ = some (.int .i64 0) ∧ W.cell? ⟨r, 2, none⟩ = some (.bool true) ∧ W.cell? ⟨r, 3, none⟩ = some (.slice none 0 0) ∧ W.cell? ⟨r, 4, none⟩ = some (.float .f64 0))) (by as_aux_lemma => kernel_rfl) ?_
  change wpAnyH _ _ _ _ _ _ _ _ (World.drew _)
  refine wpAnyH_take (i := 0) (v := _) rfl (by as_aux_lemma => kernel_rfl) (by as_aux_lemma => kernel_rfl) (by as_aux_lemma => kernel_rfl) (fun _ _ _ h => h) (Or.inl ⟨by rfl, by intro w hSw; (try dsimp only at hSw); go_simp; try (with_reducible rfl)⟩) HS0.out ?_
  try simp only [Act.put, List.setIfInBounds_toArray, List.set_cons_zero, List.set_cons_succ, List.getElem_toArray, List.getElem_cons_zero]
  refine wpAnyH_take (i := 1) (v := exBL.v) rfl (by as_aux_lemma => kernel_rfl) (by as_aux_lemma => kernel_rfl) (by as_aux_lemma => kernel_rfl) (fun _ _ _ h => h) (yieldsF rfl rfl rfl (fun w h => h.1)) HS0.out ?_
  try simp only [Act.put, List.setIfInBounds_toArray, List.set_cons_zero, List.set_cons_succ, List.getElem_toArray, List.getElem_cons_succ, List.getElem_cons_zero]
  refine wpAnyH_take (i := 2) (v := _) rfl (by as_aux_lemma => kernel_rfl) (by as_aux_lemma => kernel_rfl) (by as_aux_lemma => kernel_rfl) (fun _ _ _ h => h) (Or.inl ⟨by rfl, by intro w hSw; (try dsimp only at hSw); go_simp; try (with_reducible rfl)⟩) HS0.out ?_
  try simp only [Act.put, List.setIfInBounds_toArray, List.set_cons_zero, List.set_cons_succ, List.getElem_toArray, List.getElem_cons_succ, List.getElem_cons_zero]
  refine wpAnyH_take (i := 3) (v := _) rfl (by as_aux_lemma => kernel_rfl) (by as_aux_lemma => kernel_rfl) (by as_aux_lemma => kernel_rfl) (fun _ _ _ h => h) (Or.inl ⟨by rfl, by intro w hSw; (try dsimp only at hSw); go_simp; try (with_reducible rfl)⟩) HS0.out ?_
  try simp only [Act.put, List.setIfInBounds_toArray, List.set_cons_zero, List.set_cons_succ, List.getElem_toArray, List.getElem_cons_succ, List.getElem_cons_zero]
  refine wpAnyH_take (i := 4) (v := _) rfl (by as_aux_lemma => kernel_rfl) (by as_aux_lemma => kernel_rfl) (by as_aux_lemma => kernel_rfl) (fun _ _ _ h => h) (Or.inl ⟨by rfl, by intro w hSw; (try dsimp only at hSw); go_simp; try (with_reducible rfl)⟩) HS0.out ?_
  try simp only [Act.put, List.setIfInBounds_toArray, List.set_cons_zero, List.set_cons_succ, List.getElem_toArray, List.getElem_cons_succ, List.getElem_cons_zero]
  refine wpAnyH_take (i := 5) (v := _) rfl (by as_aux_lemma => kernel_rfl) (by as_aux_lemma => kernel_rfl) (by as_aux_lemma => kernel_rfl) (fun _ _ _ h => h) (Or.inl ⟨by rfl, by intro w hSw; (try dsimp only at hSw); go_simp; try (with_reducible rfl)⟩) HS0.out ?_
  try simp only [Act.put, List.setIfInBounds_toArray, List.set_cons_zero, List.set_cons_succ, List.getElem_toArray, List.getElem_cons_succ, List.getElem_cons_zero]
  refine wpAnyH_ready (rs := [6]) (by as_aux_lemma => kernel_rfl) (by simp) ?_
  refine AllReadyH.cons rfl (fun K hK => ?_) AllReadyH.nil
  go_simp
  go_at_call 27
  refine (bValue exBL rfl _).mono ?_
  rintro e w9 ⟨rfl, hw9⟩
  have HT9 : Hid (STE w q r w3.heap.size w4.heap.size w9 v8 _) := Lib.hid (HT8.out.below ((Below.refl _ _).drew.trans (by rw [hw9]; exact vW_below w8.drew)))
  have HS9 := Lib.hid HT9.out.see
  have HX9 : Hid (BVN w9 (ob v8) (some ⟨w8.heap.size + 2, 0, none⟩) [1]) := Lib.hid (fun _ => ⟨w8.heap.size + 2, 0, rfl, by rw [hw9]; exact Nat.lt_of_lt_of_le (Nat.lt_succ_self _) (Nat.le_of_eq (vW_size w8.drew).symm), not_ob HT8.out.own (by omega), fun i hi => by
    obtain rfl : i = 0 := by simp at hi; omega
    rw [hw9]; exact vW_new w8.drew⟩)
  clear hw9
  refine hK.out _ _ HS9.out (fun _ => ?_)
  clear hK K
  try simp only [Act.put, List.setIfInBounds_toArray, List.set_cons_zero, List.set_cons_succ, List.getElem_toArray, List.getElem_cons_succ, List.getElem_cons_zero]
  refine wpAnyH_ready (rs := [7]) (by as_aux_lemma => kernel_rfl) (by simp) ?_
  refine AllReadyH.cons rfl (fun K hK => ?_) AllReadyH.nil
  go_simp
  go_at_call 15
  refine (wText w3.heap.size v8 _ [1] (some ⟨w8.heap.size + 2, 0, none⟩) 1 _ HT9.out.own HT9.out.sz (by simp) (by simp) (by simp) HX9.out).mono ?_
  rintro e w10 ⟨v10, rfl, hG10⟩
  have HT10 := Lib.hid (HT9.out.grew hG10)
  have HS10 := Lib.hid HT10.out.see
  clear hG10
  refine hK.out _ _ HS10.out (fun _ => ?_)
  clear hK K
  try simp only [Act.put, List.setIfInBounds_toArray, List.set_cons_zero, List.set_cons_succ, List.getElem_toArray, List.getElem_cons_succ, List.getElem_cons_zero]
  refine wpAnyH_take (i := 8) (v := _) rfl (by as_aux_lemma => kernel_rfl) (by as_aux_lemma => kernel_rfl) (by as_aux_lemma => kernel_rfl) (fun _ _ _ h => h) (Or.inl ⟨by rfl, by intro w hSw; (try dsimp only at hSw); go_simp; try (with_reducible rfl)⟩) HS10.out ?_
  try simp only [Act.put, List.setIfInBounds_toArray, List.set_cons_zero, List.set_cons_succ, List.getElem_toArray, List.getElem_cons_succ, List.getElem_cons_zero]
  refine wpAnyH_done (by as_aux_lemma => kernel_rfl) ?_ _
  have HT11 : Hid (STE w q r w3.heap.size w4.heap.size w10 v10 [1, 5, 1, 97, 1, 1]) := HT10
  clear HS0 HS9 HS10 HT8 HT9 HT10
  obtain ⟨g, c, rfl, _, _⟩ := own_slice HT11.out.own (by simp)
  go_wp2_with fail
  rw [rounds_succ]
  go_wp2_with (first | (go_at_call 18; fail))
  refine (wSum (some ⟨g, 0, none⟩) [1, 5, 1, 97, 1, 1] c w10 (own_BV (n := 6) (c := c) HT11.out.own) (by simp)).mono ?_
  rintro e w11 ⟨rfl, hw11⟩
  have HT12 : Hid (STE w q r w3.heap.size w4.heap.size w11 (.slice (some ⟨g, 0, none⟩) 6 c) [1, 5, 1, 97, 1, 1]) := Lib.hid (HT11.out.below (by rw [hw11]; exact (Below.refl _ _).alloc (Nat.le_refl _) _))
  have HO12 : Hid (w11.ownsRow w3.heap.size 5 1 (.slice (some ⟨g, 0, none⟩) 6 c) 6 (([1, 5, 1, 97, 1, 1] : List UInt8).map u8V)) := Lib.hid HT12.out.own
  have hz12 : w3.heap.size ≤ w11.heap.size := HT12.out.sz
  have HC12 : Hid (∀ j u, ((sumS [1, 5, 1, 97, 1, 1]).map u8V)[j]? = some u → w11.cell? ((⟨w10.heap.size, 0, none⟩ : Addr).add j) = some u) := Lib.hid (fun j u hj => by
    rw [Go.WideShapes.add_plain, hw11]
    simp only [World.cell?, heap_alloc_new]
    simpa using hj)
  clear HT11 hw11
  go_wp2_with (first | (at_builtin; go_loud (refine wpList_append_own_at _ rfl _ _ 37 rfl w3.heap.size 5 i0 (.int .u8 0) 1 1 Tryz.underlying37 HNI.out HX0.out HX1.out HX2.out rfl (by decide) _ _ _ rfl HO12.out ⟨w10.heap.size, 0, none⟩ 4 4 ((sumS [1, 5, 1, 97, 1, 1]).map u8V) rfl (by rw [List.length_map, sumS_len]) HC12.out (u8_one _) (by unfold maxLen; omega) (by omega) hz12 ?_); intro v13 w13 hown13 hgrow13 hnil13 hat13; have HG13 : Hid (Grew w3.heap.size (.slice (some ⟨g, 0, none⟩) 6 c) ([1, 5, 1, 97, 1, 1] ++ sumS [1, 5, 1, 97, 1, 1]) w11 v13 w13) := Lib.hid (grew_many rfl (sumS_len _).symm hown13 hgrow13 hat13); clear hown13 hgrow13 hnil13 hat13))
  have HT13 := Lib.hid (HT12.out.grew HG13.out)
  obtain ⟨g2, c2, hv2, _, _⟩ := own_slice HT13.out.own (by simp)
  subst hv2
  go_ret2
  exact ⟨g2, c2, rfl, Lib.hid ⟨own_weakB HT13.out.own (Nat.le_of_lt HT13.out.lt.2.2), HT13.out.bel⟩⟩
end Go.Proofs.YtdomglkcfecnnaaGreat
