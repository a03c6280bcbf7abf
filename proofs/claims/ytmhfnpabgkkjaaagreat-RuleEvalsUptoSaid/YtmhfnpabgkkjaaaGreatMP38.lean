/- Own texts, merged: SH, SI, T1. -/
import Derived.Shelf.Vars
import Derived.HandedShaped
import Derived.Test.YtmhfnpabgkkjaaaGreatMP36
import Derived.Test.YtmhfnpabgkkjaaaGreatMP37
/- Walks: the page's example, cut; the law RuleParses. -/
namespace Go.Proofs.YtmhfnpabgkkjaaaGreat
open Go.RowKit Go.Shelf Ieee
attribute [local go_sem] run_store_float
theorem maxLn_of {w : World} (h : w.ShapedOpen Tryz.prog) : ∃ m, MaxLn m w :=
  Go.Proofs.cell_of_shapedOpen_int (zero := #[.int .i64 0]) (t := 3) h (of_decide_eq_true (by kernel_rfl)) (by kernel_rfl) rfl (by kernel_rfl) (by kernel_rfl) Tryz.underlying3
theorem MaxLn.lt {m : Int} {w : World} (h : MaxLn m w) : 1 < w.heap.size := cell_lt h
theorem exB_ok : BOk exB := ⟨by decide, fun b hb => by
  rcases List.mem_cons.1 hb with rfl | hb
  · decide
  · cases hb⟩
theorem nil_ok : BOk [] := ⟨by decide, fun b hb => by cases hb⟩
theorem exB_row {w : World} {g : Nat} (h : w.heap[g]? = some (.cells #[.string ⟨#[120]⟩, .int .i64 2, .float .f64 0, .string ⟨#[98, 99, 100]⟩, .bool false] 63 (0, 0))) : BndV w (.slice (some ⟨g, 0, none⟩) 1 1) exB := by
  refine ⟨_, 1, rfl, Nat.le_refl _, (fun e => by cases e), fun a ha => ?_⟩
  cases ha
  refine ⟨fun _ => (Array.getElem?_eq_some_iff.1 h).1, fun i b hi => ?_⟩
  match i, hi with
  | 0, hi =>
    cases hi
    exact ⟨by rw [addr_add]; simp [World.cell?, h]; rfl, by rw [addr_add]; simp [World.cell?, h], by rw [addr_add]; simp [World.cell?, h], by rw [addr_add]; simp [World.cell?, h]; rfl, by rw [addr_add]; simp [World.cell?, h]⟩
set_option maxRecDepth 100000 in
set_option maxHeartbeats 4000000 in
theorem wawake (m : Int) (w : World) (hm : MaxLn m w) : Calls Tryz.prog 11 #[] w fun e w' => e = .returned (.bool true) ∧ Below w.heap.size w w' := by
  have HMX := Lib.hid hm
  have HP : Hid (∀ W, Calls Tryz.prog 6 #[.string ⟨#[108, 101, 110, 32, 120, 32, 62, 61, 32, 51]⟩] W fun e w' => ∃ v, e = .returned (.tuple #[v, .int .i64 190]) ∧ NodeV (fun b => W.heap.size ≤ b) w' v (parseP ex1).1 ∧ Below W.heap.size W w') := Lib.hid (fun W => by
    have h := wparse ex1 (by decide) W
    unfold ParseEnd at h
    rw [ex1_is] at h
    exact h)
  have H2 : Hid (∀ W v, BndV W v exB → MaxLn m W → Calls Tryz.prog 16 #[.string ⟨#[108, 101, 110, 40, 120, 41, 32, 62, 61, 32, 51, 32, 97, 110, 100, 32, 110, 111, 116, 32, 104, 97, 115, 40, 120, 44, 32, 39, 97, 39, 41]⟩, v] W fun e w' => e = .returned (.tuple #[.bool true, .int .i64 0]) ∧ Below W.heap.size W w') := Lib.hid (fun W v h1 h2 => by
    have h := wHolds exB exB_ok v ex2 (by decide) m W h1 h2
    rw [ex2_is] at h
    exact h)
  have H3 : Hid (∀ W, MaxLn m W → Calls Tryz.prog 16 #[.string ⟨#[49, 32, 47, 32, 48, 32, 62, 32, 53]⟩, .slice none 0 0] W fun e w' => e = .returned (.tuple #[.bool true, .int .i64 0]) ∧ Below W.heap.size W w') := Lib.hid (fun W h2 => by
    have h := wHolds [] nil_ok _ ex3 (by decide) m W (BndV.nil W) h2
    rw [ex3_is] at h
    exact h)
  have H4 : Hid (∀ W, MaxLn m W → Calls Tryz.prog 16 #[.string ⟨#[48, 32, 47, 32, 48, 32, 61, 32, 48, 32, 47, 32, 48]⟩, .slice none 0 0] W fun e w' => e = .returned (.tuple #[.bool false, .int .i64 0]) ∧ Below W.heap.size W w') := Lib.hid (fun W h2 => by
    have h := wHolds [] nil_ok _ ex4 (by decide) m W (BndV.nil W) h2
    rw [ex4_is] at h
    exact h)
  have HB1 := Lib.hid (bel1 w (.cells #[.string ⟨#[120]⟩, .int .i64 2, .float .f64 0, .string ⟨#[98, 99, 100]⟩, .bool false] 63))
  have HX : Hid ((w.alloc (.cells #[.string ⟨#[120]⟩, .int .i64 2, .float .f64 0, .string ⟨#[98, 99, 100]⟩, .bool false] 63)).heap[w.heap.size]? = some (.cells #[.string ⟨#[120]⟩, .int .i64 2, .float .f64 0, .string ⟨#[98, 99, 100]⟩, .bool false] 63 (0, 0))) := Lib.hid (heap_alloc_new _ _)
  clear hm
  go_enter Tryz.func11, Tryz.ntmps11
  go_wp2_with (first | (go_at_call 6; fail))
  generalize w.alloc (.cells #[.string ⟨#[120]⟩, .int .i64 2, .float .f64 0, .string ⟨#[98, 99, 100]⟩, .bool false] 63) = W0 at HB1 HX ⊢
  go_at_call 6
  refine (HP.out W0).mono ?_
  rintro e w2 ⟨v2, rfl, hv2, hb2⟩
  obtain ⟨o, n, s, x, k, c, rfl⟩ := hv2.agg
  have hx2 := (hb2.block w.heap.size (Array.getElem?_eq_some_iff.1 HX.out).1).trans HX.out
  have hl2 := (Array.getElem?_eq_some_iff.1 hx2).1
  have c0 : w2.cell? ⟨w.heap.size, 0, none⟩ = some (.string ⟨#[120]⟩) := by simp [World.cell?, hx2]
  have c1 : w2.cell? ⟨w.heap.size, 1, none⟩ = some (.int .i64 2) := by simp [World.cell?, hx2]
  have c2 : w2.cell? ⟨w.heap.size, 2, none⟩ = some (.float .f64 0) := by simp [World.cell?, hx2]
  have c3 : w2.cell? ⟨w.heap.size, 3, none⟩ = some (.string ⟨#[98, 99, 100]⟩) := by simp [World.cell?, hx2]
  have c4 : w2.cell? ⟨w.heap.size, 4, none⟩ = some (.bool false) := by simp [World.cell?, hx2]
  have HB2 := Lib.hid (HB1.out.trans (below_le hb2 HB1.out.size))
  clear hx2 hb2 hv2 HP HX
  go_wp2_with (first | (go_at_call 16; fail))
  have HBR : Hid (BndV ((w2.alloc (.cells #[.string o, .float .f64 n, .string s, .slice x k c] 26)).alloc (.cells #[.string ⟨#[120]⟩, .int .i64 2, .float .f64 0, .string ⟨#[98, 99, 100]⟩, .bool false] 63)) (.slice (some ⟨w2.heap.size + 1, 0, none⟩) 1 1) exB) := Lib.hid (exB_row (by simpa using heap_alloc_new (w2.alloc (.cells #[.string o, .float .f64 n, .string s, .slice x k c] 26)) (.cells #[.string ⟨#[120]⟩, .int .i64 2, .float .f64 0, .string ⟨#[98, 99, 100]⟩, .bool false] 63)))
  have HB3 := Lib.hid ((HB2.out.alloc HB2.out.size (.cells #[.string o, .float .f64 n, .string s, .slice x k c] 26)).alloc (by have := HB2.out.size; simp; omega) (.cells #[.string ⟨#[120]⟩, .int .i64 2, .float .f64 0, .string ⟨#[98, 99, 100]⟩, .bool false] 63))
  refine (H2.out _ _ HBR.out (HMX.out.below HB3.out)).mono ?_
  rintro e w4 ⟨rfl, hb4⟩
  have HB4 := Lib.hid (HB3.out.trans (below_le hb4 HB3.out.size))
  clear hb4 HBR HB3 HB2 c0 c1 c2 c3 c4
  go_wp2_with (first | (go_at_call 16; fail))
  refine (H3.out _ (HMX.out.below HB4.out)).mono ?_
  rintro e w5 ⟨rfl, hb5⟩
  have HB5 := Lib.hid (HB4.out.trans (below_le hb5 HB4.out.size))
  clear hb5 HB4
  go_wp2_with (first | (go_at_call 16; fail))
  refine (H4.out _ (HMX.out.below HB5.out)).mono ?_
  rintro e w6 ⟨rfl, hb6⟩
  have HB6 := Lib.hid (HB5.out.trans (below_le hb6 HB5.out.size))
  clear hb6 HB5
  go_wp2
  go_ret
  exact ⟨rfl, HB6.out⟩
set_option maxHeartbeats 1000000 in
theorem wlawCut (l : Bs) (w : World) : Calls Tryz.prog 5 #[.string (tx l)] w fun e w' => e = .returned (.string (tx (l.take 400))) ∧ w = w' := by
  have HS := Lib.hid (tx_size' l)
  have hm : min ((tx l).size : Int) 400 = ((min l.length 400 : Nat) : Int) := by rw [HS.out]; omega
  have hle : ((min l.length 400 : Nat) : Int) ≤ ((tx l).size : Int) := by rw [HS.out]; omega
  have hle2 : min l.length 400 ≤ (tx l).size := by rw [HS.out]; omega
  have HE : Hid ((tx l).extract 0 (min l.length 400) = tx (l.take 400)) := Lib.hid (by
    rw [tx_extract, List.drop_zero, Nat.sub_zero]
    by_cases h : l.length ≤ 400
    · rw [Nat.min_eq_left h, List.take_length, List.take_of_length_le h]
    · rw [Nat.min_eq_right (by omega)])
  generalize min l.length 400 = K at hm hle hle2 HE
  go_enter Tryz.func5, Tryz.ntmps5
  go_wp2
  go_ret
  exact ⟨by rw [← HE.out]; rfl, rfl⟩
end Go.Proofs.YtmhfnpabgkkjaaaGreat
/- Walk: the law RuleParses. -/
namespace Go.Proofs.YtmhfnpabgkkjaaaGreat
open Go.RowKit Go.Shelf Ieee
attribute [local go_sem] run_store_float
theorem parse_err (l : Bs) : (parseP l).2 = 0 ∨ (parseP l).2 = 2 ∨ (parseP l).2 = 190 := by
  unfold parseP
  split
  · exact .inr (.inl rfl)
  · cases readP l with
    | none => exact .inr (.inr rfl)
    | some t =>
      simp only
      split
      · exact .inr (.inr rfl)
      · exact .inl rfl
set_option maxRecDepth 100000 in
set_option maxHeartbeats 8000000 in
theorem parses_tx (l : Bs) (m : Int) (w : World) (hm : MaxLn m w) : Calls Tryz.prog 3 #[.string (tx l)] w fun e w' => e = .returned (.bool true) ∧ Below w.heap.size w w' := by
  have HCUT := Lib.hid (wlawCut l w)
  have HMX := Lib.hid hm
  obtain ⟨S, hS⟩ : ∃ S, S = l.take 400 := ⟨_, rfl⟩
  have hSl : S.length ≤ 400 := by rw [hS, List.length_take]; omega
  rw [← hS] at HCUT
  have HP1 := Lib.hid (fun W => wparse S (by omega) W)
  have HP2 := Lib.hid (fun W => rparse S (by omega) W)
  unfold ParseEnd at HP1 HP2
  have HSZ := Lib.hid (show szT (parseP S).1 ≤ 1000000 by have := parse_sz S; omega)
  have HDP := Lib.hid (show depT (parseP S).1 ≤ 1000000 by have := dep_sz (parseP S).1; have := HSZ.out; omega)
  obtain ⟨t, ht⟩ : ∃ t, t = (parseP S).1 := ⟨_, rfl⟩
  obtain ⟨E, hE⟩ : ∃ E, E = (parseP S).2 := ⟨_, rfl⟩
  rw [← ht, ← hE] at HP1 HP2
  have HER : Hid (E = 0 ∨ E = 2 ∨ E = 190) := Lib.hid (by rw [hE]; exact parse_err S)
  rw [← ht] at HSZ HDP
  clear hm hS ht hE hSl
  go_enter Tryz.func3, Tryz.ntmps3
  go_wp2_with (first | (go_at_call 5; refine (HCUT.out).mono ?_; rintro e w1 ⟨rfl, rfl⟩) | (go_at_call 6; fail))
  go_at_call 6
  refine (HP1.out _).mono ?_
  rintro e w2 ⟨va, rfl, hva, hb2⟩
  obtain ⟨o1, n1, s1, x1, l1, c1, rfl⟩ := hva.agg
  have hal : Below w2.heap.size w2 (w2.alloc (.cells #[.string o1, .float .f64 n1, .string s1, .slice x1 l1 c1] 26)) := (Below.refl _ _).alloc (Nat.le_refl _) _
  have HB3 := Lib.hid (hb2.trans (below_le hal hb2.size))
  have HN3 := Lib.hid (hva.below hal)
  have HG3 : Hid (NB (w2.alloc (.cells #[.string o1, .float .f64 n1, .string s1, .slice x1 l1 c1] 26)) w2.heap.size (.agg #[.string o1, .float .f64 n1, .string s1, .slice x1 l1 c1])) := Lib.hid ⟨_, _, _, _, rfl, heap_alloc_new _ _⟩
  clear hb2 hva hal
  go_wp2_with (first | (go_at_call 7; fail))
  generalize w2.alloc (.cells #[.string o1, .float .f64 n1, .string s1, .slice x1 l1 c1] 26) = W3 at HB3 HN3 HG3 ⊢
  generalize w2.heap.size = g3 at HG3 ⊢
  refine (HP2.out _).mono ?_
  rintro e w4 ⟨vb, rfl, hvb, hb4⟩
  obtain ⟨o2, n2, s2, x2, l2, c2, rfl⟩ := hvb.agg
  have hal : Below w4.heap.size w4 (w4.alloc (.cells #[.string o2, .float .f64 n2, .string s2, .slice x2 l2 c2] 26)) := (Below.refl _ _).alloc (Nat.le_refl _) _
  have hle4 := hb4.size
  have HB5 := Lib.hid ((HB3.out.trans (below_le hb4 HB3.out.size)).trans (below_le hal (by have := HB3.out.size; omega)))
  have HN5 := Lib.hid ((HN3.out.below hb4).below hal)
  have HG5 := Lib.hid ((HG3.out.below hb4).below hal)
  have HN6 := Lib.hid (hvb.below hal)
  have HG6 : Hid (NB (w4.alloc (.cells #[.string o2, .float .f64 n2, .string s2, .slice x2 l2 c2] 26)) w4.heap.size (.agg #[.string o2, .float .f64 n2, .string s2, .slice x2 l2 c2])) := Lib.hid ⟨_, _, _, _, rfl, heap_alloc_new _ _⟩
  clear hb4 hvb hal HB3 HN3 HG3 hle4
  go_upto_region 4 with (fail)
  generalize w4.alloc (.cells #[.string o2, .float .f64 n2, .string s2, .slice x2 l2 c2] 26) = W0 at HB5 HN5 HG5 HN6 HG6 ⊢
  generalize w4.heap.size = g4 at HG6 ⊢
  have HRD : Hid (∀ W, Below W0.heap.size W0 W → Below W0.heap.size W0 W ∧ W.cell? ⟨g3, 0, none⟩ = some (.string o1) ∧ W.cell? ⟨g3, 1, none⟩ = some (.float .f64 n1) ∧ W.cell? ⟨g3, 2, none⟩ = some (.string s1) ∧ W.cell? ⟨g3, 3, none⟩ = some (.slice x1 l1 c1) ∧ W.cell? ⟨g4, 0, none⟩ = some (.string o2) ∧ W.cell? ⟨g4, 1, none⟩ = some (.float .f64 n2) ∧ W.cell? ⟨g4, 2, none⟩ = some (.string s2) ∧ W.cell? ⟨g4, 3, none⟩ = some (.slice x2 l2 c2)) := Lib.hid (fun W hW => by
    obtain ⟨a0, a1, a2, a3, _⟩ := (HG5.out.below hW).cells
    obtain ⟨c0, c1, c2, c3, _⟩ := (HG6.out.below hW).cells
    exact ⟨hW, a0, a1, a2, a3, c0, c1, c2, c3⟩)
  have HSN : Hid (∀ W, Below W0.heap.size W0 W → Calls Tryz.prog 8 #[.agg #[.string o1, .float .f64 n1, .string s1, .slice x1 l1 c1], .agg #[.string o2, .float .f64 n2, .string s2, .slice x2 l2 c2]] W fun e w' => e = .returned (.bool true) ∧ Below W0.heap.size W0 w') := Lib.hid (fun W hW =>
    (rsameNode _ t (Nat.le_refl _) _ _ _ _ W HSZ.out (HN5.out.below hW) (HN6.out.below hW)).mono fun e w' h => ⟨h.1, hW.trans (below_le h.2 hW.size)⟩)
  have HD1 : Hid (∀ W, Below W0.heap.size W0 W → Calls Tryz.prog 9 #[.agg #[.string o1, .float .f64 n1, .string s1, .slice x1 l1 c1]] W fun e w' => e = .returned (.int .i64 (depT t)) ∧ Below W0.heap.size W0 w') := Lib.hid (fun W hW =>
    (wdepth _ t (Nat.le_refl _) _ _ W HSZ.out (HN5.out.below hW)).mono fun e w' h => ⟨h.1, hW.trans (below_le h.2 hW.size)⟩)
  have HD2 : Hid (∀ W, Below W0.heap.size W0 W → Calls Tryz.prog 10 #[.agg #[.string o2, .float .f64 n2, .string s2, .slice x2 l2 c2]] W fun e w' => e = .returned (.int .i64 (depT t)) ∧ Below W0.heap.size W0 w') := Lib.hid (fun W hW =>
    (rdepth _ t (Nat.le_refl _) _ _ W HSZ.out (HN6.out.below hW)).mono fun e w' h => ⟨h.1, hW.trans (below_le h.2 hW.size)⟩)
  have HAW : Hid (∀ W, Below W0.heap.size W0 W → Calls Tryz.prog 11 #[] W fun e w' => e = .returned (.bool true) ∧ Below W0.heap.size W0 w') := Lib.hid (fun W hW =>
    (wawake m W ((HMX.out.below HB5.out).below hW)).mono fun e w' h => ⟨h.1, hW.trans (below_le h.2 hW.size)⟩)
  generalize depT t = D at HD1 HD2
  clear HN5 HG5 HN6 HG6 HP1 HP2 HSZ HDP
  have b1 : ((E : Int) == (E : Int)) = true := beq_self_eq_true _
  have b2 : ((D : Int) == (D : Int)) = true := beq_self_eq_true _
  by_cases q : E = 0
  · subst q
    have b3 : (((0 : Nat) : Int) != 0) = false := rfl
    go_region_held3 (fun W => Below W0.heap.size W0 W ∧ W.cell? ⟨g3, 0, none⟩ = some (.string o1) ∧ W.cell? ⟨g3, 1, none⟩ = some (.float .f64 n1) ∧ W.cell? ⟨g3, 2, none⟩ = some (.string s1) ∧ W.cell? ⟨g3, 3, none⟩ = some (.slice x1 l1 c1) ∧ W.cell? ⟨g4, 0, none⟩ = some (.string o2) ∧ W.cell? ⟨g4, 1, none⟩ = some (.float .f64 n2) ∧ W.cell? ⟨g4, 2, none⟩ = some (.string s2) ∧ W.cell? ⟨g4, 3, none⟩ = some (.slice x2 l2 c2))
      (first | exact HRD.out _ (Below.refl _ _).drew | exact HRD.out _ HB14.out | exact HRD.out _ HB13.out | exact HRD.out _ HB12.out | exact HRD.out _ HB11.out)
      (first
        | (go_at_call 11; (with_reducible refine (HAW.out _ (by first | exact HB13.out | exact HB12.out | exact HB11.out)).mono ?_); rintro e y4 ⟨rfl, hb⟩; have HB14 := Lib.hid hb; clear hb)
        | (go_at_call 10; (with_reducible refine (HD2.out _ (by first | exact HB12.out | exact HB11.out)).mono ?_); rintro e y3 ⟨rfl, hb⟩; have HB13 := Lib.hid hb; clear hb)
        | (go_at_call 9; (with_reducible refine (HD1.out _ (by first | exact HB13.out | exact HB11.out)).mono ?_); rintro e y2 ⟨rfl, hb⟩; have HB12 := Lib.hid hb; clear hb)
        | (go_at_call 8; (with_reducible refine (HSN.out _ (Below.refl _ _).drew).mono ?_); rintro e y1 ⟨rfl, hb⟩; have HB11 := Lib.hid hb; clear hb))
    all_goals
      go_wp2
      go_ret
      exact ⟨rfl, HB5.out.trans (below_le HB14.out HB5.out.size)⟩
  · have hE2 : E = 2 ∨ E = 190 := by
      rcases HER.out with h | h
      · exact absurd h q
      · exact h
    clear q
    rcases hE2 with rfl | rfl
    all_goals
      have HS0 := Lib.hid (HRD.out W0.drew (Below.refl _ _).drew)
      refine wp_region_held (S := (fun W => Below W0.heap.size W0 W ∧ W.cell? ⟨g3, 0, none⟩ = some (.string o1) ∧ W.cell? ⟨g3, 1, none⟩ = some (.float .f64 n1) ∧ W.cell? ⟨g3, 2, none⟩ = some (.string s1) ∧ W.cell? ⟨g3, 3, none⟩ = some (.slice x1 l1 c1) ∧ W.cell? ⟨g4, 0, none⟩ = some (.string o2) ∧ W.cell? ⟨g4, 1, none⟩ = some (.float .f64 n2) ∧ W.cell? ⟨g4, 2, none⟩ = some (.string s2) ∧ W.cell? ⟨g4, 3, none⟩ = some (.slice x2 l2 c2))) (by kernel_rfl) ?_
      change wpAnyH _ _ _ _ _ _ _ _ (World.drew _)
      refine wpAnyH_take (i := 0) (v := _) rfl (by kernel_rfl) (by kernel_rfl) (by kernel_rfl) (fun _ _ _ h => h) (Or.inl ⟨by rfl, by intro w hSw; (try dsimp only at hSw); go_simp; try (with_reducible rfl)⟩) HS0.out ?_
      try simp only [Act.put, List.setIfInBounds_toArray]
      refine wpAnyH_take (i := 1) (v := _) rfl (by kernel_rfl) (by kernel_rfl) (by kernel_rfl) (fun _ _ _ h => h) (Or.inl ⟨by rfl, by intro w hSw; (try dsimp only at hSw); go_simp; try (with_reducible rfl)⟩) HS0.out ?_
      try simp only [Act.put]
      refine wpAnyH_ready (rs := [2]) (by kernel_rfl) (by simp) ?_
      refine AllReadyH.cons rfl (fun K hK => ?_) AllReadyH.nil
      go_simp
      go_wp2_with (first | (go_at_call 8; fail))
      refine (HSN.out _ (Below.refl _ _).drew).mono ?_
      rintro e y1 ⟨rfl, hb⟩
      have HB11 := Lib.hid hb
      have HS1 := Lib.hid (HRD.out y1 hb)
      clear hb
      refine hK.out _ _ HS1.out (fun _ => ?_)
      clear hK K
      try simp only [Act.put, List.setIfInBounds_toArray, List.set_cons_zero, List.set_cons_succ]
      refine wpAnyH_take (i := 3) (v := _) rfl (by kernel_rfl) (by kernel_rfl) (by kernel_rfl) (fun _ _ _ h => h) (Or.inl ⟨by rfl, by intro w hSw; (try dsimp only at hSw); go_simp; try (with_reducible rfl)⟩) HS1.out ?_
      try simp only [Act.put, List.setIfInBounds_toArray, List.set_cons_zero, List.set_cons_succ, List.getElem_toArray, List.getElem_cons_succ, List.getElem_cons_zero]
      refine wpAnyH_take (i := 4) (v := _) rfl (by kernel_rfl) (by kernel_rfl) (by kernel_rfl) (fun _ _ _ h => h) (Or.inl ⟨by rfl, by intro w hSw; (try dsimp only at hSw); go_simp; try (with_reducible rfl)⟩) HS1.out ?_
      try simp only [Act.put, List.setIfInBounds_toArray, List.set_cons_zero, List.set_cons_succ, List.getElem_toArray, List.getElem_cons_succ, List.getElem_cons_zero]
      refine wpAnyH_take (i := 5) (v := _) rfl (by kernel_rfl) (by kernel_rfl) (by kernel_rfl) (fun _ _ _ h => h) (Or.inl ⟨by rfl, by intro w hSw; (try dsimp only at hSw); go_simp; try (with_reducible rfl)⟩) HS1.out ?_
      try simp only [Act.put, List.setIfInBounds_toArray, List.set_cons_zero, List.set_cons_succ, List.getElem_toArray, List.getElem_cons_succ, List.getElem_cons_zero]
      refine wpAnyH_take (i := 6) (v := _) rfl (by kernel_rfl) (by kernel_rfl) (by kernel_rfl) (fun _ _ _ h => h) (Or.inl ⟨by rfl, by intro w hSw; (try dsimp only at hSw); go_simp; try (with_reducible rfl)⟩) HS1.out ?_
      try simp only [Act.put, List.setIfInBounds_toArray, List.set_cons_zero, List.set_cons_succ, List.getElem_toArray, List.getElem_cons_succ, List.getElem_cons_zero]
      refine wpAnyH_take (i := 7) (v := _) rfl (by kernel_rfl) (by kernel_rfl) (by kernel_rfl) (fun _ _ _ h => h) (Or.inl ⟨by rfl, by intro w hSw; (try dsimp only at hSw); go_simp; try (with_reducible rfl)⟩) HS1.out ?_
      try simp only [Act.put, List.setIfInBounds_toArray, List.set_cons_zero, List.set_cons_succ, List.getElem_toArray, List.getElem_cons_succ, List.getElem_cons_zero]
      refine wpAnyH_take (i := 8) (v := _) rfl (by kernel_rfl) (by kernel_rfl) (by kernel_rfl) (fun _ _ _ h => h) (Or.inl ⟨by rfl, by intro w hSw; (try dsimp only at hSw); go_simp; try (with_reducible rfl)⟩) HS1.out ?_
      try simp only [Act.put, List.setIfInBounds_toArray, List.set_cons_zero, List.set_cons_succ, List.getElem_toArray, List.getElem_cons_succ, List.getElem_cons_zero]
      refine wpAnyH_take (i := 9) (v := _) rfl (by kernel_rfl) (by kernel_rfl) (by kernel_rfl) (fun _ _ _ h => h) (Or.inl ⟨by rfl, by intro w hSw; (try dsimp only at hSw); go_simp; try (with_reducible rfl)⟩) HS1.out ?_
      try simp only [Act.put, List.setIfInBounds_toArray, List.set_cons_zero, List.set_cons_succ, List.getElem_toArray, List.getElem_cons_succ, List.getElem_cons_zero]
      refine wpAnyH_take (i := 10) (v := _) rfl (by kernel_rfl) (by kernel_rfl) (by kernel_rfl) (fun _ _ _ h => h) (Or.inl ⟨by rfl, by intro w hSw; (try dsimp only at hSw); go_simp; try (with_reducible rfl)⟩) HS1.out ?_
      try simp only [Act.put, List.setIfInBounds_toArray, List.set_cons_zero, List.set_cons_succ, List.getElem_toArray, List.getElem_cons_succ, List.getElem_cons_zero]
      refine wpAnyH_take (i := 11) (v := _) rfl (by kernel_rfl) (by kernel_rfl) (by kernel_rfl) (fun _ _ _ h => h) (Or.inl ⟨by rfl, by intro w hSw; (try dsimp only at hSw); go_simp; try (with_reducible rfl)⟩) HS1.out ?_
      try simp only [Act.put, List.setIfInBounds_toArray, List.set_cons_zero, List.set_cons_succ, List.getElem_toArray, List.getElem_cons_succ, List.getElem_cons_zero]
      refine wpAnyH_take (i := 12) (v := _) rfl (by kernel_rfl) (by kernel_rfl) (by kernel_rfl) (fun _ _ _ h => h) (Or.inr ⟨by rfl, rfl⟩) HS1.out ?_
      try simp only [Act.put, List.setIfInBounds_toArray, List.set_cons_zero, List.set_cons_succ, List.getElem_toArray, List.getElem_cons_succ, List.getElem_cons_zero]
      refine wpAnyH_take (i := 13) (v := _) rfl (by kernel_rfl) (by kernel_rfl) (by kernel_rfl) (fun _ _ _ h => h) (Or.inr ⟨by rfl, rfl⟩) HS1.out ?_
      try simp only [Act.put, List.setIfInBounds_toArray, List.set_cons_zero, List.set_cons_succ, List.getElem_toArray, List.getElem_cons_succ, List.getElem_cons_zero]
      refine wpAnyH_take (i := 14) (v := _) rfl (by kernel_rfl) (by kernel_rfl) (by kernel_rfl) (fun _ _ _ h => h) (Or.inr ⟨by rfl, rfl⟩) HS1.out ?_
      try simp only [Act.put, List.setIfInBounds_toArray, List.set_cons_zero, List.set_cons_succ, List.getElem_toArray, List.getElem_cons_succ, List.getElem_cons_zero]
      refine wpAnyH_take (i := 15) (v := _) rfl (by kernel_rfl) (by kernel_rfl) (by kernel_rfl) (fun _ _ _ h => h) (Or.inr ⟨by rfl, rfl⟩) HS1.out ?_
      try simp only [Act.put, List.setIfInBounds_toArray, List.set_cons_zero, List.set_cons_succ, List.getElem_toArray, List.getElem_cons_succ, List.getElem_cons_zero]
      refine wpAnyH_take (i := 16) (v := _) rfl (by kernel_rfl) (by kernel_rfl) (by kernel_rfl) (fun _ _ _ h => h) (Or.inr ⟨by rfl, rfl⟩) HS1.out ?_
      try simp only [Act.put, List.setIfInBounds_toArray, List.set_cons_zero, List.set_cons_succ, List.getElem_toArray, List.getElem_cons_succ, List.getElem_cons_zero]
      refine wpAnyH_take (i := 17) (v := _) rfl (by kernel_rfl) (by kernel_rfl) (by kernel_rfl) (fun _ _ _ h => h) (Or.inl ⟨by rfl, by intro w hSw; (try dsimp only at hSw); go_simp; try (with_reducible rfl)⟩) HS1.out ?_
      try simp only [Act.put, List.setIfInBounds_toArray, List.set_cons_zero, List.set_cons_succ, List.getElem_toArray, List.getElem_cons_succ, List.getElem_cons_zero]
      refine wpAnyH_take (i := 18) (v := _) rfl (by kernel_rfl) (by kernel_rfl) (by kernel_rfl) (fun _ _ _ h => h) (Or.inl ⟨by rfl, by intro w hSw; (try dsimp only at hSw); go_simp; try (with_reducible rfl)⟩) HS1.out ?_
      try simp only [Act.put, List.setIfInBounds_toArray, List.set_cons_zero, List.set_cons_succ, List.getElem_toArray, List.getElem_cons_succ, List.getElem_cons_zero]
      refine wpAnyH_take (i := 19) (v := _) rfl (by kernel_rfl) (by kernel_rfl) (by kernel_rfl) (fun _ _ _ h => h) (Or.inl ⟨by rfl, by intro w hSw; (try dsimp only at hSw); go_simp; try (with_reducible rfl)⟩) HS1.out ?_
      try simp only [Act.put, List.setIfInBounds_toArray, List.set_cons_zero, List.set_cons_succ, List.getElem_toArray, List.getElem_cons_succ, List.getElem_cons_zero]
      refine wpAnyH_ready (rs := [20]) (by kernel_rfl) (by simp) ?_
      refine AllReadyH.cons rfl (fun K hK => ?_) AllReadyH.nil
      go_simp
      go_wp2_with (first | (go_at_call 11; fail))
      refine (HAW.out _ HB11.out).mono ?_
      rintro e y4 ⟨rfl, hb⟩
      have HB14 := Lib.hid hb
      have HS4 := Lib.hid (HRD.out y4 hb)
      clear hb
      refine hK.out _ _ HS4.out (fun _ => ?_)
      clear hK K
      try simp only [Act.put, List.setIfInBounds_toArray, List.set_cons_zero, List.set_cons_succ, List.getElem_toArray, List.getElem_cons_succ, List.getElem_cons_zero]
      refine wpAnyH_take (i := 21) (v := _) rfl (by kernel_rfl) (by kernel_rfl) (by kernel_rfl) (fun _ _ _ h => h) (Or.inl ⟨by rfl, by intro w hSw; (try dsimp only at hSw); go_simp; try (with_reducible rfl)⟩) HS4.out ?_
      try simp only [Act.put, List.setIfInBounds_toArray, List.set_cons_zero, List.set_cons_succ, List.getElem_toArray, List.getElem_cons_succ, List.getElem_cons_zero]
      refine wpAnyH_take (i := 22) (v := _) rfl (by kernel_rfl) (by kernel_rfl) (by kernel_rfl) (fun _ _ _ h => h) (Or.inl ⟨by rfl, by intro w hSw; (try dsimp only at hSw); go_simp; try (with_reducible rfl)⟩) HS4.out ?_
      try simp only [Act.put, List.setIfInBounds_toArray, List.set_cons_zero, List.set_cons_succ, List.getElem_toArray, List.getElem_cons_succ, List.getElem_cons_zero]
      refine wpAnyH_done (by kernel_rfl) ?_ _
      go_wp2
      go_ret
      exact ⟨rfl, HB5.out.trans (below_le HB14.out HB5.out.size)⟩
theorem parses_any (s : ByteArray) (w : World) (hm : ∃ m, MaxLn m w) : Calls Tryz.prog 3 #[.string s] w fun e w' => e = .returned (.bool true) ∧ Below w.heap.size w w' := by
  obtain ⟨m, hm⟩ := hm
  have h := parses_tx s.data.toList m w hm
  have e : tx s.data.toList = s := by cases s; simp [tx]
  rw [e] at h
  exact h
end Go.Proofs.YtmhfnpabgkkjaaaGreat
/- Walks: the reference's takes, of (printed by gen_t1.py). -/
namespace Go.Proofs.YtmhfnpabgkkjaaaGreat
open Go.RowKit Go.Shelf
attribute [local go_sem] run_store_float
/-- How many parts an Op takes, as the reference says it. -/
def takesR (op : Bs) : Int := match takesT op with | some k => (k : Int) | none => -1
/-- The type of an Op of parts of types, as the reference says it. -/
def ofT (op : Bs) (l : List Nat) : Nat := if op = wnum then 1 else if op = wtext then 2 else madeT op l
set_option maxHeartbeats 4000000 in
theorem rtakes (op : Bs) (w : World) : Calls Tryz.prog 68 #[.string (tx op)] w fun e w' => e = .returned (.int .i64 (takesR op)) ∧ w = w' := by
  unfold takesR
  rcases opcases op with ⟨ho, b0, b1, b2, b3, b4, b5, b6, b7, b8, b9, b10, b11, b12, b13, b14, b15, b16, b17, b18, b19⟩ | ⟨ho, b0, b1, b2, b3, b4, b5, b6, b7, b8, b9, b10, b11, b12, b13, b14, b15, b16, b17, b18, b19⟩ | ⟨ho, b0, b1, b2, b3, b4, b5, b6, b7, b8, b9, b10, b11, b12, b13, b14, b15, b16, b17, b18, b19⟩ | ⟨ho, b0, b1, b2, b3, b4, b5, b6, b7, b8, b9, b10, b11, b12, b13, b14, b15, b16, b17, b18, b19⟩ | ⟨ho, b0, b1, b2, b3, b4, b5, b6, b7, b8, b9, b10, b11, b12, b13, b14, b15, b16, b17, b18, b19⟩ | ⟨ho, b0, b1, b2, b3, b4, b5, b6, b7, b8, b9, b10, b11, b12, b13, b14, b15, b16, b17, b18, b19⟩ | ⟨ho, b0, b1, b2, b3, b4, b5, b6, b7, b8, b9, b10, b11, b12, b13, b14, b15, b16, b17, b18, b19⟩ | ⟨ho, b0, b1, b2, b3, b4, b5, b6, b7, b8, b9, b10, b11, b12, b13, b14, b15, b16, b17, b18, b19⟩ | ⟨ho, b0, b1, b2, b3, b4, b5, b6, b7, b8, b9, b10, b11, b12, b13, b14, b15, b16, b17, b18, b19⟩ | ⟨ho, b0, b1, b2, b3, b4, b5, b6, b7, b8, b9, b10, b11, b12, b13, b14, b15, b16, b17, b18, b19⟩ | ⟨ho, b0, b1, b2, b3, b4, b5, b6, b7, b8, b9, b10, b11, b12, b13, b14, b15, b16, b17, b18, b19⟩ | ⟨ho, b0, b1, b2, b3, b4, b5, b6, b7, b8, b9, b10, b11, b12, b13, b14, b15, b16, b17, b18, b19⟩ | ⟨ho, b0, b1, b2, b3, b4, b5, b6, b7, b8, b9, b10, b11, b12, b13, b14, b15, b16, b17, b18, b19⟩ | ⟨ho, b0, b1, b2, b3, b4, b5, b6, b7, b8, b9, b10, b11, b12, b13, b14, b15, b16, b17, b18, b19⟩ | ⟨ho, b0, b1, b2, b3, b4, b5, b6, b7, b8, b9, b10, b11, b12, b13, b14, b15, b16, b17, b18, b19⟩ | ⟨ho, b0, b1, b2, b3, b4, b5, b6, b7, b8, b9, b10, b11, b12, b13, b14, b15, b16, b17, b18, b19⟩ | ⟨ho, b0, b1, b2, b3, b4, b5, b6, b7, b8, b9, b10, b11, b12, b13, b14, b15, b16, b17, b18, b19⟩ | ⟨ho, b0, b1, b2, b3, b4, b5, b6, b7, b8, b9, b10, b11, b12, b13, b14, b15, b16, b17, b18, b19⟩ | ⟨ho, b0, b1, b2, b3, b4, b5, b6, b7, b8, b9, b10, b11, b12, b13, b14, b15, b16, b17, b18, b19⟩ | ⟨ho, b0, b1, b2, b3, b4, b5, b6, b7, b8, b9, b10, b11, b12, b13, b14, b15, b16, b17, b18, b19⟩ | ⟨ho, b0, b1, b2, b3, b4, b5, b6, b7, b8, b9, b10, b11, b12, b13, b14, b15, b16, b17, b18, b19⟩
  all_goals
    first
      | (have hT : takesT op = some 0 := (by subst ho; decide); rw [hT]; clear ho hT)
      | (have hT : takesT op = some 1 := (by subst ho; decide); rw [hT]; clear ho hT)
      | (have hT : takesT op = some 2 := (by subst ho; decide); rw [hT]; clear ho hT)
      | (rw [takes_none ho]; clear ho)
    generalize tx op = T at *
    go_enter Tryz.func68, Tryz.ntmps68
    go_wp2
    go_ret
    exact ⟨rfl, rfl⟩
theorem giv_range (k : Nat) (c : Bool) (h : giv k c ≠ 0) : giv k c = k := by
  cases c
  · exact absurd rfl h
  · rfl
theorem made_range {op : Bs} {l : List Nat} (h : madeT op l ≠ 0) : madeT op l = 1 ∨ madeT op l = 3 := by
  have key : ∀ (c : Prop) [Decidable c] (x y : Nat), (x ≠ 0 → x = 1 ∨ x = 3) → (y ≠ 0 → y = 1 ∨ y = 3) → (if c then x else y) ≠ 0 → (if c then x else y) = 1 ∨ (if c then x else y) = 3 := by
    intro c _ x y hx hy h
    split at h
    · rename_i hc; rw [if_pos hc]; exact hx h
    · rename_i hc; rw [if_neg hc]; exact hy h
  have g1 : ∀ c, giv 1 c ≠ 0 → giv 1 c = 1 ∨ giv 1 c = 3 := fun c h => .inl (giv_range 1 c h)
  have g3 : ∀ c, giv 3 c ≠ 0 → giv 3 c = 1 ∨ giv 3 c = 3 := fun c h => .inr (giv_range 3 c h)
  unfold madeT at h ⊢
  exact key _ _ _ (g1 _) (key _ _ _ (g1 _) (key _ _ _ (g3 _) (key _ _ _ (g3 _) (key _ _ _ (g3 _) (g3 _))))) h
theorem ty_range {L : List Bnd} {t : Tree} (h : (tyT L t).2 = 0) : (tyT L t).1 = 1 ∨ (tyT L t).1 = 2 ∨ (tyT L t).1 = 3 := by
  obtain ⟨op, fn, s, c⟩ := t
  obtain ⟨h1, h2, h3⟩ := ty_ok h
  rw [tyT_good L op s fn c h2, if_neg (fun e => e h1)] at h ⊢
  by_cases o0 : op = wnum
  · rw [if_pos o0]; exact .inl rfl
  · rw [if_neg o0] at h ⊢
    by_cases o1 : op = wtext
    · rw [if_pos o1]; exact .inr (.inl rfl)
    · rw [if_neg o1] at h ⊢
      by_cases o2 : op = wname
      · rw [if_pos o2] at h ⊢
        obtain ⟨v, hv⟩ := h3 o2
        rw [hv]
        rcases bound_t hv with e | e | e <;> simp only [e]
        · exact .inl rfl
        · exact .inr (.inl rfl)
        · exact .inr (.inr rfl)
      · rw [if_neg o2] at h ⊢
        by_cases m0 : madeT op (c.map (fun t => (tyT L t).1)) = 0
        · rw [if_pos m0] at h; cases h
        · rw [if_neg m0]
          rcases made_range m0 with e | e
          · exact .inl e
          · exact .inr (.inr e)
theorem ofCase0 (op : Bs) (v : Value) (w : World) (h : TyV w v []) (ho : op = wnum ∨ op = wtext) : Calls Tryz.prog 69 #[.string (tx op), v] w fun e w' => e = .returned (.int .i64 (ofT op [] : Nat)) ∧ w = w' := by
  obtain ⟨x, cap, rfl, _, hx, _⟩ := h
  show Calls Tryz.prog 69 #[.string (tx op), .slice x 0 cap] w _
  rcases ho with rfl | rfl
  · have hM : ofT wnum [] = 1 := rfl
    rw [hM]
    have b0 := tx_same wnum
    unfold wnum at b0 ⊢
    generalize tx [110, 117, 109] = T at *
    go_enter Tryz.func69, Tryz.ntmps69
    go_wp2
    go_ret
    exact ⟨rfl, rfl⟩
  · have hM : ofT wtext [] = 2 := by decide
    rw [hM]
    have b0 : ((tx wtext).toList == [110, 117, 109]) = false := tx_ne (by decide)
    have b1 := tx_same wtext
    unfold wtext at b0 b1 ⊢
    generalize tx [116, 101, 120, 116] = T at *
    go_enter Tryz.func69, Tryz.ntmps69
    go_wp2
    go_ret
    exact ⟨rfl, rfl⟩
set_option maxRecDepth 100000 in
set_option maxHeartbeats 16000000 in
theorem ofCase1 (op : Bs) (t0 : Nat) (h0 : t0 = 1 ∨ t0 = 2 ∨ t0 = 3) (hop : takesT op = some 1) (v : Value) (w : World) (h : TyV w v [t0]) : Calls Tryz.prog 69 #[.string (tx op), v] w fun e w' => e = .returned (.int .i64 (ofT op [t0] : Nat)) ∧ w = w' := by
  obtain ⟨x, cap, rfl, hcap, hx, hc⟩ := h
  obtain ⟨a, rfl⟩ : ∃ a, x = some a := by
    cases x with
    | none => have := hx rfl; cases this
    | some a => exact ⟨a, rfl⟩
  have c0 := hc a rfl 0 t0 rfl
  rw [show a.add 0 = a from rfl] at c0
  show Calls Tryz.prog 69 #[.string (tx op), .slice (some a) 1 cap] w _
  clear hc hx
  obtain ⟨M, hM⟩ : ∃ M, M = ofT op [t0] := ⟨_, rfl⟩
  rw [← hM]
  rcases opcases op with ⟨ho, b0, b1, b2, b3, b4, b5, b6, b7, b8, b9, b10, b11, b12, b13, b14, b15, b16, b17, b18, b19⟩ | ⟨ho, b0, b1, b2, b3, b4, b5, b6, b7, b8, b9, b10, b11, b12, b13, b14, b15, b16, b17, b18, b19⟩ | ⟨ho, b0, b1, b2, b3, b4, b5, b6, b7, b8, b9, b10, b11, b12, b13, b14, b15, b16, b17, b18, b19⟩ | ⟨ho, b0, b1, b2, b3, b4, b5, b6, b7, b8, b9, b10, b11, b12, b13, b14, b15, b16, b17, b18, b19⟩ | ⟨ho, b0, b1, b2, b3, b4, b5, b6, b7, b8, b9, b10, b11, b12, b13, b14, b15, b16, b17, b18, b19⟩ | ⟨ho, b0, b1, b2, b3, b4, b5, b6, b7, b8, b9, b10, b11, b12, b13, b14, b15, b16, b17, b18, b19⟩ | ⟨ho, b0, b1, b2, b3, b4, b5, b6, b7, b8, b9, b10, b11, b12, b13, b14, b15, b16, b17, b18, b19⟩ | ⟨ho, b0, b1, b2, b3, b4, b5, b6, b7, b8, b9, b10, b11, b12, b13, b14, b15, b16, b17, b18, b19⟩ | ⟨ho, b0, b1, b2, b3, b4, b5, b6, b7, b8, b9, b10, b11, b12, b13, b14, b15, b16, b17, b18, b19⟩ | ⟨ho, b0, b1, b2, b3, b4, b5, b6, b7, b8, b9, b10, b11, b12, b13, b14, b15, b16, b17, b18, b19⟩ | ⟨ho, b0, b1, b2, b3, b4, b5, b6, b7, b8, b9, b10, b11, b12, b13, b14, b15, b16, b17, b18, b19⟩ | ⟨ho, b0, b1, b2, b3, b4, b5, b6, b7, b8, b9, b10, b11, b12, b13, b14, b15, b16, b17, b18, b19⟩ | ⟨ho, b0, b1, b2, b3, b4, b5, b6, b7, b8, b9, b10, b11, b12, b13, b14, b15, b16, b17, b18, b19⟩ | ⟨ho, b0, b1, b2, b3, b4, b5, b6, b7, b8, b9, b10, b11, b12, b13, b14, b15, b16, b17, b18, b19⟩ | ⟨ho, b0, b1, b2, b3, b4, b5, b6, b7, b8, b9, b10, b11, b12, b13, b14, b15, b16, b17, b18, b19⟩ | ⟨ho, b0, b1, b2, b3, b4, b5, b6, b7, b8, b9, b10, b11, b12, b13, b14, b15, b16, b17, b18, b19⟩ | ⟨ho, b0, b1, b2, b3, b4, b5, b6, b7, b8, b9, b10, b11, b12, b13, b14, b15, b16, b17, b18, b19⟩ | ⟨ho, b0, b1, b2, b3, b4, b5, b6, b7, b8, b9, b10, b11, b12, b13, b14, b15, b16, b17, b18, b19⟩ | ⟨ho, b0, b1, b2, b3, b4, b5, b6, b7, b8, b9, b10, b11, b12, b13, b14, b15, b16, b17, b18, b19⟩ | ⟨ho, b0, b1, b2, b3, b4, b5, b6, b7, b8, b9, b10, b11, b12, b13, b14, b15, b16, b17, b18, b19⟩ | ⟨ho, b0, b1, b2, b3, b4, b5, b6, b7, b8, b9, b10, b11, b12, b13, b14, b15, b16, b17, b18, b19⟩
  · subst ho; exact absurd hop (by decide)
  · subst ho; exact absurd hop (by decide)
  · subst ho; exact absurd hop (by decide)
  · clear hop
    rcases h0 with rfl | rfl | rfl
    all_goals
      first
        | (have hK : M = 0 := (by rw [hM]; subst ho; decide); subst hK)
        | (have hK : M = 1 := (by rw [hM]; subst ho; decide); subst hK)
        | (have hK : M = 3 := (by rw [hM]; subst ho; decide); subst hK)
      clear ho hM
      generalize tx op = T at *
      go_enter Tryz.func69, Tryz.ntmps69
      go_wp2
      go_ret
      exact ⟨rfl, rfl⟩
  · clear hop
    rcases h0 with rfl | rfl | rfl
    all_goals
      first
        | (have hK : M = 0 := (by rw [hM]; subst ho; decide); subst hK)
        | (have hK : M = 1 := (by rw [hM]; subst ho; decide); subst hK)
        | (have hK : M = 3 := (by rw [hM]; subst ho; decide); subst hK)
      clear ho hM
      generalize tx op = T at *
      go_enter Tryz.func69, Tryz.ntmps69
      go_wp2
      go_ret
      exact ⟨rfl, rfl⟩
  · clear hop
    rcases h0 with rfl | rfl | rfl
    all_goals
      first
        | (have hK : M = 0 := (by rw [hM]; subst ho; decide); subst hK)
        | (have hK : M = 1 := (by rw [hM]; subst ho; decide); subst hK)
        | (have hK : M = 3 := (by rw [hM]; subst ho; decide); subst hK)
      clear ho hM
      generalize tx op = T at *
      go_enter Tryz.func69, Tryz.ntmps69
      go_wp2
      go_ret
      exact ⟨rfl, rfl⟩
  · clear hop
    rcases h0 with rfl | rfl | rfl
    all_goals
      first
        | (have hK : M = 0 := (by rw [hM]; subst ho; decide); subst hK)
        | (have hK : M = 1 := (by rw [hM]; subst ho; decide); subst hK)
        | (have hK : M = 3 := (by rw [hM]; subst ho; decide); subst hK)
      clear ho hM
      generalize tx op = T at *
      go_enter Tryz.func69, Tryz.ntmps69
      go_wp2
      go_ret
      exact ⟨rfl, rfl⟩
  · subst ho; exact absurd hop (by decide)
  · subst ho; exact absurd hop (by decide)
  · subst ho; exact absurd hop (by decide)
  · subst ho; exact absurd hop (by decide)
  · subst ho; exact absurd hop (by decide)
  · subst ho; exact absurd hop (by decide)
  · subst ho; exact absurd hop (by decide)
  · subst ho; exact absurd hop (by decide)
  · subst ho; exact absurd hop (by decide)
  · subst ho; exact absurd hop (by decide)
  · subst ho; exact absurd hop (by decide)
  · subst ho; exact absurd hop (by decide)
  · subst ho; exact absurd hop (by decide)
  · rw [takes_none ho] at hop; cases hop
set_option maxRecDepth 100000 in
set_option maxHeartbeats 64000000 in
theorem ofCase2 (op : Bs) (t0 t1 : Nat) (h0 : t0 = 1 ∨ t0 = 2 ∨ t0 = 3) (h1 : t1 = 1 ∨ t1 = 2 ∨ t1 = 3) (hop : takesT op = some 2) (v : Value) (w : World) (h : TyV w v [t0, t1]) : Calls Tryz.prog 69 #[.string (tx op), v] w fun e w' => e = .returned (.int .i64 (ofT op [t0, t1] : Nat)) ∧ w = w' := by
  obtain ⟨x, cap, rfl, hcap, hx, hc⟩ := h
  obtain ⟨a, rfl⟩ : ∃ a, x = some a := by
    cases x with
    | none => have := hx rfl; cases this
    | some a => exact ⟨a, rfl⟩
  have c0 := hc a rfl 0 t0 rfl
  have c1 := hc a rfl 1 t1 rfl
  rw [show a.add 0 = a from rfl] at c0
  have c1' : w.cell? ⟨a.block, a.off + 1, none⟩ = some (.int .i64 (t1 : Nat)) := by simpa [Addr.add] using c1
  show Calls Tryz.prog 69 #[.string (tx op), .slice (some a) 2 cap] w _
  clear hc hx c1
  obtain ⟨M, hM⟩ : ∃ M, M = ofT op [t0, t1] := ⟨_, rfl⟩
  rw [← hM]
  rcases opcases op with ⟨ho, b0, b1, b2, b3, b4, b5, b6, b7, b8, b9, b10, b11, b12, b13, b14, b15, b16, b17, b18, b19⟩ | ⟨ho, b0, b1, b2, b3, b4, b5, b6, b7, b8, b9, b10, b11, b12, b13, b14, b15, b16, b17, b18, b19⟩ | ⟨ho, b0, b1, b2, b3, b4, b5, b6, b7, b8, b9, b10, b11, b12, b13, b14, b15, b16, b17, b18, b19⟩ | ⟨ho, b0, b1, b2, b3, b4, b5, b6, b7, b8, b9, b10, b11, b12, b13, b14, b15, b16, b17, b18, b19⟩ | ⟨ho, b0, b1, b2, b3, b4, b5, b6, b7, b8, b9, b10, b11, b12, b13, b14, b15, b16, b17, b18, b19⟩ | ⟨ho, b0, b1, b2, b3, b4, b5, b6, b7, b8, b9, b10, b11, b12, b13, b14, b15, b16, b17, b18, b19⟩ | ⟨ho, b0, b1, b2, b3, b4, b5, b6, b7, b8, b9, b10, b11, b12, b13, b14, b15, b16, b17, b18, b19⟩ | ⟨ho, b0, b1, b2, b3, b4, b5, b6, b7, b8, b9, b10, b11, b12, b13, b14, b15, b16, b17, b18, b19⟩ | ⟨ho, b0, b1, b2, b3, b4, b5, b6, b7, b8, b9, b10, b11, b12, b13, b14, b15, b16, b17, b18, b19⟩ | ⟨ho, b0, b1, b2, b3, b4, b5, b6, b7, b8, b9, b10, b11, b12, b13, b14, b15, b16, b17, b18, b19⟩ | ⟨ho, b0, b1, b2, b3, b4, b5, b6, b7, b8, b9, b10, b11, b12, b13, b14, b15, b16, b17, b18, b19⟩ | ⟨ho, b0, b1, b2, b3, b4, b5, b6, b7, b8, b9, b10, b11, b12, b13, b14, b15, b16, b17, b18, b19⟩ | ⟨ho, b0, b1, b2, b3, b4, b5, b6, b7, b8, b9, b10, b11, b12, b13, b14, b15, b16, b17, b18, b19⟩ | ⟨ho, b0, b1, b2, b3, b4, b5, b6, b7, b8, b9, b10, b11, b12, b13, b14, b15, b16, b17, b18, b19⟩ | ⟨ho, b0, b1, b2, b3, b4, b5, b6, b7, b8, b9, b10, b11, b12, b13, b14, b15, b16, b17, b18, b19⟩ | ⟨ho, b0, b1, b2, b3, b4, b5, b6, b7, b8, b9, b10, b11, b12, b13, b14, b15, b16, b17, b18, b19⟩ | ⟨ho, b0, b1, b2, b3, b4, b5, b6, b7, b8, b9, b10, b11, b12, b13, b14, b15, b16, b17, b18, b19⟩ | ⟨ho, b0, b1, b2, b3, b4, b5, b6, b7, b8, b9, b10, b11, b12, b13, b14, b15, b16, b17, b18, b19⟩ | ⟨ho, b0, b1, b2, b3, b4, b5, b6, b7, b8, b9, b10, b11, b12, b13, b14, b15, b16, b17, b18, b19⟩ | ⟨ho, b0, b1, b2, b3, b4, b5, b6, b7, b8, b9, b10, b11, b12, b13, b14, b15, b16, b17, b18, b19⟩ | ⟨ho, b0, b1, b2, b3, b4, b5, b6, b7, b8, b9, b10, b11, b12, b13, b14, b15, b16, b17, b18, b19⟩
  · subst ho; exact absurd hop (by decide)
  · subst ho; exact absurd hop (by decide)
  · subst ho; exact absurd hop (by decide)
  · subst ho; exact absurd hop (by decide)
  · subst ho; exact absurd hop (by decide)
  · subst ho; exact absurd hop (by decide)
  · subst ho; exact absurd hop (by decide)
  · clear hop
    rcases h0 with rfl | rfl | rfl <;> rcases h1 with rfl | rfl | rfl
    all_goals
      first
        | (have hK : M = 0 := (by rw [hM]; subst ho; decide); subst hK)
        | (have hK : M = 1 := (by rw [hM]; subst ho; decide); subst hK)
        | (have hK : M = 3 := (by rw [hM]; subst ho; decide); subst hK)
      clear ho hM
      generalize tx op = T at *
      go_enter Tryz.func69, Tryz.ntmps69
      go_wp2
      go_ret
      exact ⟨rfl, rfl⟩
  · clear hop
    rcases h0 with rfl | rfl | rfl <;> rcases h1 with rfl | rfl | rfl
    all_goals
      first
        | (have hK : M = 0 := (by rw [hM]; subst ho; decide); subst hK)
        | (have hK : M = 1 := (by rw [hM]; subst ho; decide); subst hK)
        | (have hK : M = 3 := (by rw [hM]; subst ho; decide); subst hK)
      clear ho hM
      generalize tx op = T at *
      go_enter Tryz.func69, Tryz.ntmps69
      go_wp2
      go_ret
      exact ⟨rfl, rfl⟩
  · clear hop
    rcases h0 with rfl | rfl | rfl <;> rcases h1 with rfl | rfl | rfl
    all_goals
      first
        | (have hK : M = 0 := (by rw [hM]; subst ho; decide); subst hK)
        | (have hK : M = 1 := (by rw [hM]; subst ho; decide); subst hK)
        | (have hK : M = 3 := (by rw [hM]; subst ho; decide); subst hK)
      clear ho hM
      generalize tx op = T at *
      go_enter Tryz.func69, Tryz.ntmps69
      go_wp2
      go_ret
      exact ⟨rfl, rfl⟩
  · clear hop
    rcases h0 with rfl | rfl | rfl <;> rcases h1 with rfl | rfl | rfl
    all_goals
      first
        | (have hK : M = 0 := (by rw [hM]; subst ho; decide); subst hK)
        | (have hK : M = 1 := (by rw [hM]; subst ho; decide); subst hK)
        | (have hK : M = 3 := (by rw [hM]; subst ho; decide); subst hK)
      clear ho hM
      generalize tx op = T at *
      go_enter Tryz.func69, Tryz.ntmps69
      go_wp2
      go_ret
      exact ⟨rfl, rfl⟩
  · clear hop
    rcases h0 with rfl | rfl | rfl <;> rcases h1 with rfl | rfl | rfl
    all_goals
      first
        | (have hK : M = 0 := (by rw [hM]; subst ho; decide); subst hK)
        | (have hK : M = 1 := (by rw [hM]; subst ho; decide); subst hK)
        | (have hK : M = 3 := (by rw [hM]; subst ho; decide); subst hK)
      clear ho hM
      generalize tx op = T at *
      go_enter Tryz.func69, Tryz.ntmps69
      go_wp2
      go_ret
      exact ⟨rfl, rfl⟩
  · clear hop
    rcases h0 with rfl | rfl | rfl <;> rcases h1 with rfl | rfl | rfl
    all_goals
      first
        | (have hK : M = 0 := (by rw [hM]; subst ho; decide); subst hK)
        | (have hK : M = 1 := (by rw [hM]; subst ho; decide); subst hK)
        | (have hK : M = 3 := (by rw [hM]; subst ho; decide); subst hK)
      clear ho hM
      generalize tx op = T at *
      go_enter Tryz.func69, Tryz.ntmps69
      go_wp2
      go_ret
      exact ⟨rfl, rfl⟩
  · clear hop
    rcases h0 with rfl | rfl | rfl <;> rcases h1 with rfl | rfl | rfl
    all_goals
      first
        | (have hK : M = 0 := (by rw [hM]; subst ho; decide); subst hK)
        | (have hK : M = 1 := (by rw [hM]; subst ho; decide); subst hK)
        | (have hK : M = 3 := (by rw [hM]; subst ho; decide); subst hK)
      clear ho hM
      generalize tx op = T at *
      go_enter Tryz.func69, Tryz.ntmps69
      go_wp2
      go_ret
      exact ⟨rfl, rfl⟩
  · clear hop
    rcases h0 with rfl | rfl | rfl <;> rcases h1 with rfl | rfl | rfl
    all_goals
      first
        | (have hK : M = 0 := (by rw [hM]; subst ho; decide); subst hK)
        | (have hK : M = 1 := (by rw [hM]; subst ho; decide); subst hK)
        | (have hK : M = 3 := (by rw [hM]; subst ho; decide); subst hK)
      clear ho hM
      generalize tx op = T at *
      go_enter Tryz.func69, Tryz.ntmps69
      go_wp2
      go_ret
      exact ⟨rfl, rfl⟩
  · clear hop
    rcases h0 with rfl | rfl | rfl <;> rcases h1 with rfl | rfl | rfl
    all_goals
      first
        | (have hK : M = 0 := (by rw [hM]; subst ho; decide); subst hK)
        | (have hK : M = 1 := (by rw [hM]; subst ho; decide); subst hK)
        | (have hK : M = 3 := (by rw [hM]; subst ho; decide); subst hK)
      clear ho hM
      generalize tx op = T at *
      go_enter Tryz.func69, Tryz.ntmps69
      go_wp2
      go_ret
      exact ⟨rfl, rfl⟩
  · clear hop
    rcases h0 with rfl | rfl | rfl <;> rcases h1 with rfl | rfl | rfl
    all_goals
      first
        | (have hK : M = 0 := (by rw [hM]; subst ho; decide); subst hK)
        | (have hK : M = 1 := (by rw [hM]; subst ho; decide); subst hK)
        | (have hK : M = 3 := (by rw [hM]; subst ho; decide); subst hK)
      clear ho hM
      generalize tx op = T at *
      go_enter Tryz.func69, Tryz.ntmps69
      go_wp2
      go_ret
      exact ⟨rfl, rfl⟩
  · clear hop
    rcases h0 with rfl | rfl | rfl <;> rcases h1 with rfl | rfl | rfl
    all_goals
      first
        | (have hK : M = 0 := (by rw [hM]; subst ho; decide); subst hK)
        | (have hK : M = 1 := (by rw [hM]; subst ho; decide); subst hK)
        | (have hK : M = 3 := (by rw [hM]; subst ho; decide); subst hK)
      clear ho hM
      generalize tx op = T at *
      go_enter Tryz.func69, Tryz.ntmps69
      go_wp2
      go_ret
      exact ⟨rfl, rfl⟩
  · clear hop
    rcases h0 with rfl | rfl | rfl <;> rcases h1 with rfl | rfl | rfl
    all_goals
      first
        | (have hK : M = 0 := (by rw [hM]; subst ho; decide); subst hK)
        | (have hK : M = 1 := (by rw [hM]; subst ho; decide); subst hK)
        | (have hK : M = 3 := (by rw [hM]; subst ho; decide); subst hK)
      clear ho hM
      generalize tx op = T at *
      go_enter Tryz.func69, Tryz.ntmps69
      go_wp2
      go_ret
      exact ⟨rfl, rfl⟩
  · clear hop
    rcases h0 with rfl | rfl | rfl <;> rcases h1 with rfl | rfl | rfl
    all_goals
      first
        | (have hK : M = 0 := (by rw [hM]; subst ho; decide); subst hK)
        | (have hK : M = 1 := (by rw [hM]; subst ho; decide); subst hK)
        | (have hK : M = 3 := (by rw [hM]; subst ho; decide); subst hK)
      clear ho hM
      generalize tx op = T at *
      go_enter Tryz.func69, Tryz.ntmps69
      go_wp2
      go_ret
      exact ⟨rfl, rfl⟩
  · rw [takes_none ho] at hop; cases hop
theorem rof (op : Bs) (v : Value) (l : List Nat) (hl : ∀ t ∈ l, t = 1 ∨ t = 2 ∨ t = 3) (hk : takesT op = some l.length) (hn : op ≠ wname) (w : World) (h : TyV w v l) : Calls Tryz.prog 69 #[.string (tx op), v] w fun e w' => e = .returned (.int .i64 (ofT op l : Nat)) ∧ w = w' := by
  match l, hl, hk, h with
  | [], _, hk, h =>
    refine ofCase0 op v w h ?_
    by_cases o0 : op = wnum
    · exact .inl o0
    · by_cases o1 : op = wtext
      · exact .inr o1
      · rcases takes_12 hk o0 o1 hn with ⟨h, _⟩ | ⟨h, _⟩ <;> cases h
  | [t0], hl, hk, h => exact ofCase1 op t0 (hl t0 (by simp)) hk v w h
  | [t0, t1], hl, hk, h => exact ofCase2 op t0 t1 (hl t0 (by simp)) (hl t1 (by simp)) hk v w h
  | t0 :: t1 :: t2 :: r, _, hk, _ =>
    by_cases o0 : op = wnum
    · rw [o0, show takesT wnum = some 0 from by decide] at hk; cases hk
    · by_cases o1 : op = wtext
      · rw [o1, show takesT wtext = some 0 from by decide] at hk; cases hk
      · rcases takes_12 hk o0 o1 hn with ⟨h, _⟩ | ⟨h, _⟩ <;> simp at h
end Go.Proofs.YtmhfnpabgkkjaaaGreat
