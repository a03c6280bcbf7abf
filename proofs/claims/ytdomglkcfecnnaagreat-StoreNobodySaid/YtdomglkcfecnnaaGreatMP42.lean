/- Own texts, merged: ER, Y8, Y9. -/
import Derived.OrdersHeld
import Derived.StillTail
import Derived.RegionTactic
import Derived.Test.YtdomglkcfecnnaaGreatH0
import Derived.Test.YtdomglkcfecnnaaGreatH9
import Derived.Test.YtdomglkcfecnnaaGreatMP35
import Derived.Test.YtdomglkcfecnnaaGreatMP41
/- Walk: a region whose reads all come before its stores. -/
namespace Go.Proofs.YtdomglkcfecnnaaGreat
open Go
section
variable {P : Program} {ops : Array Oper} {Q : Exit → Act → World → Prop} {md : Region.Mode} {S : World → Prop} {st : List Nat}
/-- Whatever order is picked, and every operation that is none of st keeps S. -/
def wpAnyS (P : Program) (md : Region.Mode) (ops : Array Oper) (Q : Exit → Act → World → Prop) (S : World → Prop) (st : List Nat) : Nat → Array Bool → Act → World → Prop
  | 0, x, a, w => Region.ready md ops x = [] ∧ Q .normal a w
  | fuel + 1, x, a, w => (Region.ready md ops x = [] → Q .normal a w) ∧
    ∀ i ∈ Region.ready md ops x, wpOp P ops Q i (fun a' w' => (i ∉ st → S w → S w') ∧ wpAnyS P md ops Q S st fuel (x.setIfInBounds i true) a' w') a w
theorem any_of_S : ∀ (fuel : Nat) (x : Array Bool) (a : Act) (w : World), wpAnyS P md ops Q S st fuel x a w → wpAny P md ops Q fuel x a w
  | 0, _, _, _, h => h
  | fuel + 1, _, _, _, h => ⟨h.1, fun i hi => wpOp_mono (fun a' w' h' => any_of_S fuel _ a' w' h'.2) (h.2 i hi)⟩
/-- An operation taken first: T holds of the world at hand, and of each behind an operation that may come while it waits. -/
theorem anyS_first {T : World → Prop} {i : Nat} {oi : Oper} {v : Value} (hi : ops[i]? = some oi) (hsel : ∀ (j : Nat) (o : Oper) cs b, ops[j]? = some o → o.op ≠ .select cs b)
    (hQ : ∀ c a w, Q (.panic c) (a.put oi.dst v) w → Q (.panic c) a w)
    (hT : ∀ x, x.getD i true = false → ∀ j ∈ Region.ready md ops x, ∀ w w', T w → (j ∉ st → S w → S w') → T w') :
    ∀ (fuel : Nat) (x : Array Bool) (a : Act) (w : World),
      (∀ j oj, ops[j]? = some oj → j ≠ i → x.getD j true = false → (∀ e ∈ oj.after, Region.binds md e = true → e.on ≠ i) → oi.apart ops oj = true) →
      i ∈ Region.ready md ops x → YieldsIf P ops T oi v a → T w →
      wpAnyS P md ops Q S st fuel (x.setIfInBounds i true) (a.put oi.dst v) w → wpAnyS P md ops Q S st (fuel + 1) x a w
  | 0, x, a, w, _, hr, hy, hw, H => ⟨fun h => (by rw [h] at hr; cases hr), fun j hj => by
      by_cases hji : j = i
      · subst hji; exact hy.wpOp hi hw ⟨fun _ h => h, H⟩
      · have := ready_mono hj hji
        rw [H.1] at this
        cases this⟩
  | fuel + 1, x, a, w, hfree, hr, hy, hw, H => ⟨fun h => (by rw [h] at hr; cases hr), fun j hj => by
      by_cases hji : j = i
      · subst hji; exact hy.wpOp hi hw ⟨fun _ h => h, H⟩
      · have h1 := H.2 j (ready_mono hj hji)
        obtain ⟨hjun, oj, hoj, hall⟩ := mem_ready.1 hj
        have hnot : ∀ e ∈ oj.after, Region.binds md e = true → e.on ≠ i := fun e he hb heq => by
          have h1 := hall e he hb
          rw [heq, getD_both (mem_ready.1 hr).1] at h1
          cases h1
        refine wpOp_mono (fun a' w' h3 => ⟨h3.2.1, anyS_first hi hsel hQ hT fuel _ a' w' (fun k ok hk hki hun hno => hfree k ok hk hki ?_ hno) (ready_mono hr (Ne.symm hji)) h3.1 (hT x (mem_ready.1 hr).1 j hj w w' hw h3.2.1) ?_⟩)
          (wpOp_putIf hoj (hfree j oj hoj hji hjun hnot) (fun cs b => hsel i oi cs b hi) (fun cs b => hsel j oj cs b hoj) hQ hy h1)
        · by_cases hjk : j = k
          · subst hjk; exact hjun
          · rw [getD_set_ne true hjk] at hun; exact hun
        · rw [Array.setIfInBounds_comm _ _ hji]; exact h3.2.2⟩
/-- Every operation of st waits for i. -/
def stWaitB (md : Region.Mode) (ops : Array Oper) (st : List Nat) (i : Nat) : Bool := st.all fun t => Region.waitsFor md ops t i
theorem anyS_load {i : Nat} {oi : Oper} {v : Value} {fuel : Nat} {x : Array Bool} {a : Act} {w : World} (hi : ops[i]? = some oi) (hs : Region.noSelect ops = true) (hf : Region.free md ops x i = true)
    (hr : (Region.ready md ops x).contains i = true) (hw : stWaitB md ops st i = true) (hQ : ∀ c a w, Q (.panic c) (a.put oi.dst v) w → Q (.panic c) a w) (hS : S w) (hy : YieldsIf P ops S oi v a)
    (h : wpAnyS P md ops Q S st fuel (x.setIfInBounds i true) (a.put oi.dst v) w) : wpAnyS P md ops Q S st (fuel + 1) x a w :=
  anyS_first (T := S) hi (Region.noSelect_spec hs) hQ (fun x hx j hj w w' hw1 hk => hk (fun hjs => by
    obtain ⟨_, oj, hoj, hall⟩ := mem_ready.1 hj
    obtain ⟨o', ho', e, he, hb, hon⟩ := Region.waitsFor_spec (List.all_eq_true.1 hw j hjs)
    have : o' = oj := Option.some.inj (ho'.symm.trans hoj)
    subst this
    have h2 := hall e he hb
    rw [hon, getD_both hx] at h2
    cases h2) hw1) fuel x a w (Region.free_spec hi hf) (by simpa using hr) hy hS h
theorem anyS_take {i : Nat} {oi : Oper} {v : Value} {fuel : Nat} {x : Array Bool} {a : Act} {w : World} (hi : ops[i]? = some oi) (hs : Region.noSelect ops = true) (hf : Region.free md ops x i = true)
    (hr : (Region.ready md ops x).contains i = true) (hQ : ∀ c a w, Q (.panic c) (a.put oi.dst v) w → Q (.panic c) a w) (hy : YieldsIf P ops (fun _ => True) oi v a)
    (h : wpAnyS P md ops Q S st fuel (x.setIfInBounds i true) (a.put oi.dst v) w) : wpAnyS P md ops Q S st (fuel + 1) x a w :=
  anyS_first (T := fun _ => True) hi (Region.noSelect_spec hs) hQ (fun _ _ _ _ _ _ _ _ => trivial) fuel x a w (Region.free_spec hi hf) (by simpa using hr) hy trivial h
theorem anyS_store {i : Nat} {oi : Oper} {fuel : Nat} {x : Array Bool} {a : Act} {w : World} (hi : ops[i]? = some oi) (hr : Region.ready md ops x = [i]) (hst : st.contains i = true)
    (h : ∀ K' : Act → World → Prop, (∀ a w, wpAnyS P md ops Q S st fuel (x.setIfInBounds i true) a w → K' a w) → if Region.wanted oi (yielded ops a.tmps) = true then Oper.wp P oi a w K' Q else K' (a.put oi.dst undef) w) : wpAnyS P md ops Q S st (fuel + 1) x a w :=
  ⟨fun h0 => (by rw [hr] at h0; cases h0), fun j hj => by
    rw [hr, List.mem_singleton] at hj
    subst hj
    exact wpOp_step hi (fun K' hK => h K' (fun a w hw => hK a w ⟨fun hn => absurd (by simpa using hst) hn, hw⟩))⟩
theorem anyS_step {i : Nat} {oi : Oper} {fuel : Nat} {x : Array Bool} {a : Act} {w : World} (hi : ops[i]? = some oi) (hr : Region.ready md ops x = [i])
    (h : ∀ K' : Act → World → Prop, (∀ a w, S w → wpAnyS P md ops Q S st fuel (x.setIfInBounds i true) a w → K' a w) → if Region.wanted oi (yielded ops a.tmps) = true then Oper.wp P oi a w K' Q else K' (a.put oi.dst undef) w) : wpAnyS P md ops Q S st (fuel + 1) x a w :=
  ⟨fun h0 => (by rw [hr] at h0; cases h0), fun j hj => by
    rw [hr, List.mem_singleton] at hj
    subst hj
    exact wpOp_step hi (fun K' hK => h K' (fun a w hs hw => hK a w ⟨fun _ _ => hs, hw⟩))⟩
theorem anyS_done {fuel : Nat} {x : Array Bool} {a : Act} {w : World} (hr : Region.ready md ops x = []) (h : Q .normal a w) : wpAnyS P md ops Q S st fuel x a w := by
  cases fuel with
  | zero => exact ⟨hr, h⟩
  | succ f => exact ⟨fun _ => h, fun i hi => (by rw [hr] at hi; cases hi)⟩
theorem wp_region_S {id : Nat} {a : Act} {w : World} {l : List Oper} (S : World → Prop) (st : List Nat) (hm : P.follows .mixedOrders = true)
    (h : wpAnyS P .any l.toArray Q S st l.length (Array.replicate l.length false) a w.drew) : (Code.region id l.toArray true).wp P Q a w :=
  wp_region_any hm (by simpa using any_of_S _ _ _ _ h)
end
end Go.Proofs.YtdomglkcfecnnaaGreat
/- Walk: the entries of the page's example, read. -/
namespace Go.Proofs.YtdomglkcfecnnaaGreat
open Go Go.RowKit Go.Shelf
attribute [local go_sem] run_store_float
def ex6 : List UInt8 := [1, 5, 1, 97, 1, 1]
/-- While the entries are read: the reader at block R; what was collected is still nothing. -/
structure ENI (w : World) (b3 g R o n c : Nat) (W : World) : Prop where
  rd : RDR W R g o n c
  bx : Box W b3 70 (.slice none 0 0)
  ce : ∀ i, i < 6 → W.cell? ⟨g, i, none⟩ = some (.int .u8 ((ex6.getD i 0).toNat : Nat))
  bel : Below w.heap.size w W
  lt : b3 < w.heap.size ∧ g < w.heap.size ∧ w.heap.size ≤ R
theorem ENI.step {w W W' : World} {b3 g R o n c o' n' c' : Nat} (h : ENI w b3 g R o n c W) (hr : RDR W' R g o' n' c') (hb : But [R] W W') : ENI w b3 g R o' n' c' W' :=
  ⟨hr, hb.heap h.bx (by simp; have := h.lt; omega), fun i hi => hb.keepB (Nat.lt_of_lt_of_le h.lt.2.1 h.bel.size) (by simp; have := h.lt; omega) (h.ce i hi),
    h.bel.trans (hb.toBelow h.bel.size (by intro j hj; have : j = R := by simpa using hj
                                           rw [this]; exact h.lt.2.2)), h.lt⟩
theorem ENI.below {w W W' : World} {b3 g R o n c : Nat} (h : ENI w b3 g R o n c W) (hb : Below W.heap.size W W') : ENI w b3 g R o n c W' :=
  ⟨(hb.block _ h.rd.cell.2.2).trans h.rd, (hb.block _ h.bx.lt).trans h.bx, fun i hi => (hb.cell (p := ⟨g, i, none⟩) (Nat.lt_of_lt_of_le h.lt.2.1 h.bel.size)).trans (h.ce i hi), h.bel.trans (below_le hb h.bel.size), h.lt⟩
theorem ENI.see {w W : World} {b3 g R o n c : Nat} (h : ENI w b3 g R o n c W) : W.cell? ⟨b3, 0, none⟩ = some (.slice none 0 0) ∧ W.cell? ⟨g, 1, none⟩ = some (.int .u8 5) ∧ ∀ d, (convert 37 9 (.slice (some ⟨g, 3, none⟩) 1 d)).run Tryz.prog W = .ok (.string ⟨#[97]⟩) W :=
  ⟨h.bx.cell, h.ce 1 (by omega), fun d => run_convert_bytes_back W 37 9 5 ⟨g, 3, none⟩ d [97] Tryz.underlying37 Tryz.underlying5 Tryz.underlying9 (fun j hj => by
    obtain rfl : j = 0 := by simp at hj; omega
    exact h.ce 3 (by omega))⟩
theorem Tryz.infoE : (Tryz.prog.info? 76).map (fun i => (i.zero, i.size, i.bytes)) = some (some (.agg #[.int .u8 0, .string ⟨#[]⟩, .slice none 0 0]), 3, 48) := by kernel_rfl
theorem info_partsE : ∃ i0, Tryz.prog.info? 76 = some i0 ∧ i0.zero = some (.agg #[.int .u8 0, .string ⟨#[]⟩, .slice none 0 0]) ∧ i0.size = 3 ∧ i0.bytes = 48 := by
  have h := Tryz.infoE
  cases hi : Tryz.prog.info? 76 with
  | none => rw [hi] at h; cases h
  | some i0 =>
    rw [hi] at h
    simp only [Option.map_some, Option.some.injEq, Prod.mk.injEq] at h
    exact ⟨i0, rfl, h.1, h.2.1, h.2.2⟩
theorem own_sliceN {w : World} {base n z : Nat} {v : Value} {xs : List Value} {e : TypeId} (h : w.ownsRow base e z v n xs) (hn : 0 < n) : ∃ g c, v = .slice (some ⟨g, 0, none⟩) n c ∧ base ≤ g := by
  rcases h.2 with ⟨hv, h0⟩ | ⟨g, cap, cur, hv, hg, _⟩
  · omega
  · exact ⟨g, cap, hv, hg⟩
theorem cell_many_new (w : World) (cs : List Value) (t : TypeId) : ∀ j u, cs[j]? = some u → (w.alloc (.cells cs.toArray t)).cell? ((⟨w.heap.size, 0, none⟩ : Addr).add j) = some u := by
  intro j u hj
  rw [Go.WideShapes.add_plain]
  simp only [World.cell?, heap_alloc_new]
  simpa using hj
set_option maxRecDepth 100000 in
set_option maxHeartbeats 8000000 in
theorem exEntries1 (b1 b2 b3 g c : Nat) (w : World) (h1 : Box w b1 37 (.slice (some ⟨g, 0, none⟩) 10 c)) (h2 : Box w b2 3 (.int .i64 6)) (h3 : Box w b3 70 (.slice none 0 0)) (hg : g < w.heap.size) (hc : 10 ≤ c) (hm : c ≤ 9223372036854775807)
    (hce : ∀ i, i < 6 → w.cell? ⟨g, i, none⟩ = some (.int .u8 ((ex6.getD i 0).toNat : Nat))) :
    Calls Tryz.prog 37 #[.pointer (some ⟨b1, 0, none⟩), .pointer (some ⟨b2, 0, none⟩), .pointer (some ⟨b3, 0, none⟩)] w fun e w' => e = .returned (.tuple #[]) ∧
      ∃ x cp cc, Box w' b3 70 (.slice (some ⟨x, 0, none⟩) 1 cp) ∧ w'.cell? ⟨x, 0, none⟩ = some (.int .u8 5) ∧ w'.cell? ⟨x, 1, none⟩ = some (.string ⟨#[97]⟩) ∧ w'.cell? ⟨x, 2, none⟩ = some (.slice (some ⟨g, 5, none⟩) 1 cc) ∧ w.heap.size ≤ x ∧ (1 < cc ∧ cc ≤ 9223372036854775807) ∧ But [b3] w w' := by
  have k1 := h1.cell
  have k2 := h2.cell
  have hb0 : Below w.heap.size w (w.alloc (.cells #[.slice (some ⟨g, 0, none⟩) 6 c] 103)) := (Below.refl _ _).alloc (Nat.le_refl _) _
  have HE0 : Hid (ENI w b3 g w.heap.size 0 6 c (w.alloc (.cells #[.slice (some ⟨g, 0, none⟩) 6 c] 103))) := Lib.hid ⟨heap_alloc_new _ _, (hb0.block _ h3.lt).trans h3, fun i hi => (hb0.cell (p := ⟨g, i, none⟩) hg).trans (hce i hi), hb0, h3.lt, hg, Nat.le_refl _⟩
  obtain ⟨R, hR⟩ : ∃ R, R = w.heap.size := ⟨_, rfl⟩
  have HN1 : Hid (∀ W, ENI w b3 g w.heap.size 0 6 c W → Calls Tryz.prog 38 #[.pointer (some ⟨w.heap.size, 0, none⟩)] W fun e w' => e = .returned (.int .i64 1) ∧ RDR w' w.heap.size g (0 + 1) (6 - 1) (c - 1) ∧ But [w.heap.size] W w') := Lib.hid (fun W h => wNumber1 w.heap.size g 0 6 c 1 W h.rd (by omega) (by omega) hm (Nat.lt_of_lt_of_le hg h.bel.size) (by omega) (by omega) (h.ce 0 (by omega)))
  obtain ⟨c1, hc1⟩ : ∃ c1, c1 = c - 1 := ⟨_, rfl⟩
  have HN2 : Hid (∀ W, ENI w b3 g w.heap.size 1 5 c1 W → Calls Tryz.prog 39 #[.pointer (some ⟨w.heap.size, 0, none⟩), .int .i64 1] W fun e w' => e = .returned (.slice (some ⟨g, 1, none⟩) 1 c1) ∧ RDR w' w.heap.size g (1 + 1) (5 - 1) (c1 - 1) ∧ But [w.heap.size] W w') := Lib.hid (fun W h => wTake w.heap.size g 1 5 c1 1 W h.rd (by omega) (by omega) (by omega))
  obtain ⟨c2, hc2⟩ : ∃ c2, c2 = c1 - 1 := ⟨_, rfl⟩
  have HN3 : Hid (∀ W, ENI w b3 g w.heap.size 2 4 c2 W → Calls Tryz.prog 40 #[.pointer (some ⟨w.heap.size, 0, none⟩)] W fun e w' => e = .returned (.slice (some ⟨g, 3, none⟩) 1 (c2 - 1)) ∧ RDR w' w.heap.size g (2 + 1 + 1) (4 - 1 - 1) (c2 - 1 - 1) ∧ But [w.heap.size] W w') := Lib.hid (fun W h => wText1 w.heap.size g 2 4 c2 1 W h.rd (by omega) (by omega) (by omega) (Nat.lt_of_lt_of_le hg h.bel.size) (by omega) (by omega) (h.ce 2 (by omega)))
  obtain ⟨c3, hc3⟩ : ∃ c3, c3 = c2 - 1 := ⟨_, rfl⟩
  obtain ⟨c4, hc4⟩ : ∃ c4, c4 = c3 - 1 := ⟨_, rfl⟩
  have HN4 : Hid (∀ W, ENI w b3 g w.heap.size 4 2 c4 W → Calls Tryz.prog 40 #[.pointer (some ⟨w.heap.size, 0, none⟩)] W fun e w' => e = .returned (.slice (some ⟨g, 5, none⟩) 1 (c4 - 1)) ∧ RDR w' w.heap.size g (4 + 1 + 1) (2 - 1 - 1) (c4 - 1 - 1) ∧ But [w.heap.size] W w') := Lib.hid (fun W h => wText1 w.heap.size g 4 2 c4 1 W h.rd (by omega) (by omega) (by omega) (Nat.lt_of_lt_of_le hg h.bel.size) (by omega) (by omega) (h.ce 4 (by omega)))
  obtain ⟨c5, hc5⟩ : ∃ c5, c5 = c4 - 1 := ⟨_, rfl⟩
  have HCC : Hid (1 < c5 ∧ c5 ≤ 9223372036854775807) := Lib.hid (by omega)
  rw [← hc1] at HN1
  rw [← hc2] at HN2
  rw [← hc3, ← hc4] at HN3
  rw [← hc5] at HN4
  have i6 : (6 : Int) ≤ (c : Int) := by omega
  clear h1 h2 h3 hce hb0 hc1 hc2 hc3 hc4 hc5 hm hR
  go_enter Tryz.func37, Tryz.ntmps37
  go_wp2_with (first | (go_at_call 38; refine (HN1.out _ HE0.out).mono ?_; rintro e w1 ⟨rfl, hr1, hb1⟩; have HE1 := Lib.hid (HE0.out.step hr1 hb1); clear hr1 hb1))
  refine wp_loop_rounds 2 ?_
  rw [rounds_succ]
  go_upto_region 6 with (first | (go_at_call 39; refine (HN2.out _ HE1.out).mono ?_; rintro e w2 ⟨rfl, hr2, hb2⟩; have HE2 := Lib.hid (HE1.out.step hr2 hb2); clear hr2 hb2) | (go_at_call 40; refine (HN3.out _ HE2.out).mono ?_; rintro e w3 ⟨rfl, hr3, hb3⟩; have HE3 := Lib.hid (HE2.out.step hr3 hb3); clear hr3 hb3))
  have HE3D := Lib.hid (HE3.out.below (Below.refl _ _).drew)
  have HEND : Hid (∀ {W : World}, (W.cell? ⟨b3, 0, none⟩ = some (.slice none 0 0) ∧ W.cell? ⟨g, 1, none⟩ = some (.int .u8 5) ∧ ∀ d, (convert 37 9 (.slice (some ⟨g, 3, none⟩) 1 d)).run Tryz.prog W = .ok (.string ⟨#[97]⟩) W) → W.cell? ⟨b3, 0, none⟩ = some (.slice none 0 0) ∧ W.cell? ⟨g, 1, none⟩ = some (.int .u8 5) ∧ (convert 37 9 (.slice (some ⟨g, 3, none⟩) 1 c3)).run Tryz.prog W = .ok (.string ⟨#[97]⟩) W) := Lib.hid (fun h => ⟨h.1, h.2.1, h.2.2 c3⟩)
  have HS0 := Lib.hid (HEND.out HE3D.out.see)
  obtain ⟨i0, hi0, hz0, hz1, hz2⟩ := info_partsE
  have HNI := Lib.hid hi0
  have HX0 := Lib.hid hz0
  have HX1 := Lib.hid hz1
  have HX2 := Lib.hid hz2
  clear hi0 hz0 hz1 hz2
  refine wp_region_S (fun W => W.cell? ⟨b3, 0, none⟩ = some (.slice none 0 0) ∧ W.cell? ⟨g, 1, none⟩ = some (.int .u8 5) ∧ (convert 37 9 (.slice (some ⟨g, 3, none⟩) 1 c3)).run Tryz.prog W = .ok (.string ⟨#[97]⟩) W) [11] (by as_aux_lemma => kernel_rfl) ?_
  refine anyS_load (i := 0) (v := _) rfl (by as_aux_lemma => kernel_rfl) (by as_aux_lemma => kernel_rfl) (by as_aux_lemma => kernel_rfl) (by as_aux_lemma => kernel_rfl) (fun _ _ _ h => h) HS0.out (Or.inl ⟨by rfl, by intro w hSw; (try dsimp only at hSw); go_simp; try (with_reducible rfl)⟩) ?_
  try simp only [Act.put, List.setIfInBounds_toArray, List.set_cons_zero, List.set_cons_succ, List.getElem_toArray, List.getElem_cons_zero]
  refine anyS_take (i := 1) (v := _) rfl (by as_aux_lemma => kernel_rfl) (by as_aux_lemma => kernel_rfl) (by as_aux_lemma => kernel_rfl) (fun _ _ _ h => h) (Or.inl ⟨by rfl, by intro w _; go_simp; try (with_reducible rfl)⟩) ?_
  try simp only [Act.put, List.setIfInBounds_toArray, List.set_cons_zero, List.set_cons_succ, List.getElem_toArray, List.getElem_cons_succ, List.getElem_cons_zero]
  refine anyS_take (i := 2) (v := _) rfl (by as_aux_lemma => kernel_rfl) (by as_aux_lemma => kernel_rfl) (by as_aux_lemma => kernel_rfl) (fun _ _ _ h => h) (Or.inl ⟨by rfl, by intro w _; go_simp; try (with_reducible rfl)⟩) ?_
  try simp only [Act.put, List.setIfInBounds_toArray, List.set_cons_zero, List.set_cons_succ, List.getElem_toArray, List.getElem_cons_succ, List.getElem_cons_zero]
  refine anyS_load (i := 3) (v := _) rfl (by as_aux_lemma => kernel_rfl) (by as_aux_lemma => kernel_rfl) (by as_aux_lemma => kernel_rfl) (by as_aux_lemma => kernel_rfl) (fun _ _ _ h => h) HS0.out (Or.inl ⟨by rfl, by intro w hSw; (try dsimp only at hSw); go_simp; try (with_reducible rfl)⟩) ?_
  try simp only [Act.put, List.setIfInBounds_toArray, List.set_cons_zero, List.set_cons_succ, List.getElem_toArray, List.getElem_cons_succ, List.getElem_cons_zero]
  refine anyS_take (i := 4) (v := _) rfl (by as_aux_lemma => kernel_rfl) (by as_aux_lemma => kernel_rfl) (by as_aux_lemma => kernel_rfl) (fun _ _ _ h => h) (Or.inl ⟨by rfl, by intro w _; go_simp; try (with_reducible rfl)⟩) ?_
  try simp only [Act.put, List.setIfInBounds_toArray, List.set_cons_zero, List.set_cons_succ, List.getElem_toArray, List.getElem_cons_succ, List.getElem_cons_zero]
  refine anyS_load (i := 5) (v := _) rfl (by as_aux_lemma => kernel_rfl) (by as_aux_lemma => kernel_rfl) (by as_aux_lemma => kernel_rfl) (by as_aux_lemma => kernel_rfl) (fun _ _ _ h => h) HS0.out (Or.inl ⟨by rfl, by intro w hSw; (try dsimp only at hSw); go_simp; try (with_reducible rfl)⟩) ?_
  try simp only [Act.put, List.setIfInBounds_toArray, List.set_cons_zero, List.set_cons_succ, List.getElem_toArray, List.getElem_cons_succ, List.getElem_cons_zero]
  refine anyS_take (i := 6) (v := _) rfl (by as_aux_lemma => kernel_rfl) (by as_aux_lemma => kernel_rfl) (by as_aux_lemma => kernel_rfl) (fun _ _ _ h => h) (Or.inl ⟨by rfl, by intro w _; go_simp; try (with_reducible rfl)⟩) ?_
  try simp only [Act.put, List.setIfInBounds_toArray, List.set_cons_zero, List.set_cons_succ, List.getElem_toArray, List.getElem_cons_succ, List.getElem_cons_zero]
  refine anyS_step (i := 7) rfl (by as_aux_lemma => kernel_rfl) (fun K hK => ?_)
  go_simp
  go_at_call 40
  refine (HN4.out _ HE3D.out).mono ?_
  rintro e w5 ⟨rfl, hr5, hb5⟩
  have HE5 := Lib.hid (HE3D.out.step hr5 hb5)
  have HS5 := Lib.hid HE5.out.see
  clear hr5 hb5
  refine hK _ _ (HEND.out HS5.out) ?_
  clear hK K
  refine anyS_take (i := 8) (v := _) rfl (by as_aux_lemma => kernel_rfl) (by as_aux_lemma => kernel_rfl) (by as_aux_lemma => kernel_rfl) (fun _ _ _ h => h) (Or.inl ⟨by rfl, by intro w _; go_simp; try (with_reducible rfl)⟩) ?_
  try simp only [Act.put, List.setIfInBounds_toArray, List.set_cons_zero, List.set_cons_succ, List.getElem_toArray, List.getElem_cons_succ, List.getElem_cons_zero]
  refine anyS_step (i := 9) rfl (by as_aux_lemma => kernel_rfl) (fun K hK => ?_)
  go_simp
  have hal : Below w5.heap.size w5 (w5.alloc (.cells #[.int .u8 5, .string ⟨#[97]⟩, .slice (some ⟨g, 5, none⟩) 1 c5] 76)) := (Below.refl _ _).alloc (Nat.le_refl _) _
  have HE6 := Lib.hid (HE5.out.below hal)
  have hz5 : w.heap.size ≤ (w5.alloc (.cells #[.int .u8 5, .string ⟨#[97]⟩, .slice (some ⟨g, 5, none⟩) 1 c5] 76)).heap.size := HE6.out.bel.size
  clear hal
  refine hK _ _ (HEND.out HE6.out.see) ?_
  clear hK K
  refine anyS_step (i := 10) rfl (by as_aux_lemma => kernel_rfl) (fun K hK => ?_)
  refine step_append_own rfl _ _ 70 rfl w.heap.size 76 i0 (.agg #[.int .u8 0, .string ⟨#[]⟩, .slice none 0 0]) 3 48 Tryz.underlying70 HNI.out HX0.out HX1.out HX2.out rfl (by decide) _ _ _ rfl (World.ownsRow_nil _ _ _ _) ⟨w5.heap.size, 0, none⟩ 1 1 [.int .u8 5, .string ⟨#[97]⟩, .slice (some ⟨g, 5, none⟩) 1 c5] rfl rfl (cell_many_new w5 _ _) (by simp [Value.oneCell']) (by unfold maxLen; omega) (by omega) hz5 ?_
  intro v6 w6 ho6 hg6 _
  obtain ⟨x6, cp6, rfl, hx6⟩ := own_sliceN ho6 (by omega)
  have hb6 : Below w5.heap.size w5 w6 := ((Below.refl _ _).alloc (Nat.le_refl _) _).grown hg6 (by simp) (fun j hj => by cases hj)
  have HE7 := Lib.hid (HE5.out.below hb6)
  have HO7 := Lib.hid ho6
  have c7 := HE7.out.bx.cell
  have f7 := HE7.out.bx.frozen
  have l7 := HE7.out.bx.lt
  clear ho6 hg6 hb6
  refine hK _ _ (HEND.out HE7.out.see) ?_
  clear hK K
  refine anyS_store (i := 11) rfl (by as_aux_lemma => kernel_rfl) (by decide) (fun K hK => ?_)
  go_simp
  refine hK _ _ ?_
  clear hK K
  refine anyS_done (by as_aux_lemma => kernel_rfl) ?_
  have k0 := HO7.out.cellAt 0 (by omega)
  have k1 := HO7.out.cellAt 1 (by omega)
  have k2 := HO7.out.cellAt 2 (by omega)
  simp only [List.nil_append, List.getElem?_cons_zero, List.getElem?_cons_succ] at k0 k1 k2
  have HB7 : Hid (Box (w6.setCell ⟨b3, 0, none⟩ (.slice (some ⟨x6, 0, none⟩) 1 cp6)) b3 70 (.slice (some ⟨x6, 0, none⟩) 1 cp6)) := Lib.hid (HE7.out.bx.set _)
  have HK7 : Hid ((w6.setCell ⟨b3, 0, none⟩ (.slice (some ⟨x6, 0, none⟩) 1 cp6)).cell? ⟨x6, 0, none⟩ = some (.int .u8 5) ∧ (w6.setCell ⟨b3, 0, none⟩ (.slice (some ⟨x6, 0, none⟩) 1 cp6)).cell? ⟨x6, 1, none⟩ = some (.string ⟨#[97]⟩) ∧ (w6.setCell ⟨b3, 0, none⟩ (.slice (some ⟨x6, 0, none⟩) 1 cp6)).cell? ⟨x6, 2, none⟩ = some (.slice (some ⟨g, 5, none⟩) 1 c5)) := Lib.hid (by
    have hne : x6 ≠ b3 := by have := HE7.out.lt.1; omega
    have e : (w6.setCell ⟨b3, 0, none⟩ (.slice (some ⟨x6, 0, none⟩) 1 cp6)).heap[x6]? = w6.heap[x6]? := set_other hne
    simp only [World.cell?] at k0 k1 k2 ⊢
    rw [e]
    exact ⟨k0, k1, k2⟩)
  have HR7 : Hid (RDR (w6.setCell ⟨b3, 0, none⟩ (.slice (some ⟨x6, 0, none⟩) 1 cp6)) w.heap.size g 6 0 (c5 - 1)) := Lib.hid ((set_other (by have := HE7.out.lt.1; omega)).trans HE7.out.rd)
  have HBT : Hid (But [b3] w (w6.setCell ⟨b3, 0, none⟩ (.slice (some ⟨x6, 0, none⟩) 1 cp6))) := Lib.hid ((But.of HE7.out.bel).set _ _ (by simp))
  have HXX := Lib.hid hx6
  have r7 := HR7.out.cell.1
  clear HO7 c7 f7 l7 HE7 HE6 HE5 hx6 k0 k1 k2 hz5
  generalize w6.setCell ⟨b3, 0, none⟩ (.slice (some ⟨x6, 0, none⟩) 1 cp6) = w7 at *
  go_wp2_with fail
  rw [rounds_succ]
  go_wp2_with fail
  go_end0
  exact ⟨rfl, x6, cp6, c5, HB7.out, HK7.out.1, HK7.out.2.1, HK7.out.2.2, HXX.out, HCC.out, HBT.out⟩
end Go.Proofs.YtdomglkcfecnnaaGreat
/- Walks: try, where nothing is given up. Printed by gen_y9.py. -/
namespace Go.Proofs.YtdomglkcfecnnaaGreat
open Go.RowKit Go.Shelf
attribute [local go_sem] run_store_float
theorem try_no (h : Nat) (w : World) :
    CallsD Tryz.prog 54 #[.pointer (some ⟨h, 0, none⟩)] .returning w fun e u' w' => e = .returned (.tuple #[]) ∧ u' = .returning ∧ w' = w := by
  refine callsD_of_wpS Tryz.func54 rfl fun c₀ cs hu => ?_
  apply wpS_seq
  apply wpS_region
  simp [wpOpsS, go_sem, recoverD, hu, Tryz.ntmps54, Exit.thenS]
  apply wpS_seq
  apply wpS_region
  simp [wpOpsS, go_sem, Exit.thenS]
  refine wpS_cond (t := false) (by simp [Act.eval, Array.replicate]) ?_
  simp only [Bool.false_eq_true, if_false]
  refine wpS_of_wp (wp_skip ?_)
  cases c₀
  simp_all [bodyPostS, results, Tryz.results54]
theorem try_res (tmps : Array Value) (w : World) (h : Nat) (b : Value) (hp : tmps.getD 2 undef = .pointer (some ⟨h, 0, none⟩)) (hb : w.heap[h]? = some (.cells #[b] 4 (0, 0))) : (results Tryz.f36 tmps).run Tryz.prog w = .ok b w := by
  have hp' : tmps[2]?.getD undef = .pointer (some ⟨h, 0, none⟩) := by simpa using hp
  have d0 : w.cell? ⟨h, 0, none⟩ = some b := by simp [World.cell?, hb]
  have hl2 : (loadVar 4 ⟨h, 0, none⟩).run Tryz.prog w = .ok b w := by simp [go_sem, d0]
  simp [results, Tryz.results36, hp', asAddr, hl2]
set_option maxRecDepth 100000 in
set_option maxHeartbeats 2000000 in
theorem tryE (p1 p2 p3 : Value) (w : World) (Q : World → Prop) (hC : Calls Tryz.prog 37 #[p1, p2, p3] (w.alloc (.cells #[.bool false] 4)) fun e w' => e = .returned (.tuple #[]) ∧ Q w') (hQ : ∀ w', Q w' → w'.heap[w.heap.size]? = some (.cells #[.bool false] 4 (0, 0))) :
    Calls Tryz.prog 36 #[.func (.func 37) #[] #[p1, p2, p3]] w fun e w' => e = .returned (.bool true) ∧ ∃ w2, Q w2 ∧ w' = w2.setCell ⟨w.heap.size, 0, none⟩ (.bool true) := by
  have hmf : ∀ (fn : Fn) (first cap : Array Value) (w : World), (Instr.makeFunc fn first cap).run Tryz.prog w = .ok (.func fn first cap) w := fun _ _ _ _ => rfl
  have HC := Lib.hid hC
  have HQ := Lib.hid hQ
  clear hC hQ
  go_enter_defers Tryz.func36, Tryz.ntmps36
  go_wp2_with (first | (go_at_call 37; fail))
  go_at_call 37
  refine HC.out.mono ?_
  rintro e w2 ⟨rfl, hq⟩
  have hz := HQ.out w2 hq
  have HZ := Lib.hid hz
  have HQ2 := Lib.hid hq
  have d0 : w2.cell? ⟨w.heap.size, 0, none⟩ = some (.bool false) := by simp [World.cell?, hz]
  have df : w2.frozen? ⟨w.heap.size, 0, none⟩ = false := by simp [World.frozen?, hz]
  clear hz hq
  go_wp2
  refine leaves_cons (f := 54) (args := #[.pointer (some ⟨w.heap.size, 0, none⟩)]) (by simp) rfl ?_
  refine (try_no w.heap.size _).mono ?_
  rintro e u' w3 ⟨rfl, rfl, rfl⟩
  simp only [Leaves, settle]
  exact ⟨_, try_res _ _ w.heap.size _ rfl (set_block HZ.out _), rfl, w2, HQ2.out, rfl⟩
set_option maxRecDepth 100000 in
set_option maxHeartbeats 2000000 in
theorem tryF (p1 p2 p3 : Value) (w : World) (Q : World → Prop) (hC : Calls Tryz.prog 41 #[p1, p2, p3] (w.alloc (.cells #[.bool false] 4)) fun e w' => e = .returned (.tuple #[]) ∧ Q w') (hQ : ∀ w', Q w' → w'.heap[w.heap.size]? = some (.cells #[.bool false] 4 (0, 0))) :
    Calls Tryz.prog 36 #[.func (.func 41) #[] #[p1, p2, p3]] w fun e w' => e = .returned (.bool true) ∧ ∃ w2, Q w2 ∧ w' = w2.setCell ⟨w.heap.size, 0, none⟩ (.bool true) := by
  have hmf : ∀ (fn : Fn) (first cap : Array Value) (w : World), (Instr.makeFunc fn first cap).run Tryz.prog w = .ok (.func fn first cap) w := fun _ _ _ _ => rfl
  have HC := Lib.hid hC
  have HQ := Lib.hid hQ
  clear hC hQ
  go_enter_defers Tryz.func36, Tryz.ntmps36
  go_wp2_with (first | (go_at_call 41; fail))
  go_at_call 41
  refine HC.out.mono ?_
  rintro e w2 ⟨rfl, hq⟩
  have hz := HQ.out w2 hq
  have HZ := Lib.hid hz
  have HQ2 := Lib.hid hq
  have d0 : w2.cell? ⟨w.heap.size, 0, none⟩ = some (.bool false) := by simp [World.cell?, hz]
  have df : w2.frozen? ⟨w.heap.size, 0, none⟩ = false := by simp [World.frozen?, hz]
  clear hz hq
  go_wp2
  refine leaves_cons (f := 54) (args := #[.pointer (some ⟨w.heap.size, 0, none⟩)]) (by simp) rfl ?_
  refine (try_no w.heap.size _).mono ?_
  rintro e u' w3 ⟨rfl, rfl, rfl⟩
  simp only [Leaves, settle]
  exact ⟨_, try_res _ _ w.heap.size _ rfl (set_block HZ.out _), rfl, w2, HQ2.out, rfl⟩
end Go.Proofs.YtdomglkcfecnnaaGreat
