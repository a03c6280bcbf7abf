/- Own texts, merged: SH, X7. -/
import Derived.Shelf.Vars
import Derived.HandedShaped
import Derived.Test.YtfalcmbjjlgoaaaGreatDoorMB45
import Derived.Test.YtfalcmbjjlgoaaaGreatDoorMB47
import Derived.Test.YtfalcmbjjlgoaaaGreatDoorMB49
/- Walks: the page's example, cut; the law RuleParses. -/
namespace Go.Proofs.YtfalcmbjjlgoaaaGreatDoor
open Go.RowKit Go.Shelf Ieee
attribute [local go_sem] run_store_float
theorem maxLn_of {w : World} (h : w.ShapedOpen Tryz.prog) : ∃ m, MaxLn m w :=
  Go.Proofs.cell_of_shapedOpen_int (zero := #[.int .i64 0]) (t := 3) h (of_decide_eq_true (by kernel_rfl)) (by kernel_rfl) rfl (by kernel_rfl) (by kernel_rfl) Tryz.underlying3
theorem MaxLn.lt {m : Int} {w : World} (h : MaxLn m w) : 1 < w.heap.size := cell_lt h
theorem exB_ok : BOk exB := ⟨by decide, fun b hb => by
  rcases List.mem_cons.1 hb with rfl | hb
  · decide
  · cases hb⟩
theorem nil_ok : BOk [] := ⟨by decide, fun b hb => by cases hb⟩
theorem exB_row {w : World} {g : Nat} (h : w.heap[g]? = some (.cells #[.string ⟨#[120]⟩, .int .i64 2, .float .f64 0, .string ⟨#[98, 99, 100]⟩, .bool false] 53 (0, 0))) : BndV w (.slice (some ⟨g, 0, none⟩) 1 1) exB := by
  refine ⟨_, 1, rfl, Nat.le_refl _, (fun e => by cases e), fun a ha => ?_⟩
  cases ha
  refine ⟨fun _ => (Array.getElem?_eq_some_iff.1 h).1, fun i b hi => ?_⟩
  match i, hi with
  | 0, hi =>
    cases hi
    exact ⟨by rw [addr_add]; simp [World.cell?, h]; rfl, by rw [addr_add]; simp [World.cell?, h], by rw [addr_add]; simp [World.cell?, h], by rw [addr_add]; simp [World.cell?, h]; rfl, by rw [addr_add]; simp [World.cell?, h]⟩
set_option maxRecDepth 100000 in
set_option maxHeartbeats 4000000 in
theorem wawake (m : Int) (w : World) (hm : MaxLn m w) : Calls Tryz.prog 8 #[] w fun e w' => e = .returned (.bool true) ∧ Below w.heap.size w w' := by
  have HMX := Lib.hid hm
  have HP : Hid (∀ W, Calls Tryz.prog 5 #[.string ⟨#[108, 101, 110, 32, 120, 32, 62, 61, 32, 51]⟩] W fun e w' => ∃ v, e = .returned (.tuple #[v, .int .i64 190]) ∧ NodeV (fun b => W.heap.size ≤ b) w' v (parseP ex1).1 ∧ Below W.heap.size W w') := Lib.hid (fun W => by
    have h := wparse ex1 (by decide) W
    unfold ParseEnd at h
    rw [ex1_is] at h
    exact h)
  have H2 : Hid (∀ W v, BndV W v exB → MaxLn m W → Calls Tryz.prog 23 #[.string ⟨#[108, 101, 110, 40, 120, 41, 32, 62, 61, 32, 51, 32, 97, 110, 100, 32, 110, 111, 116, 32, 104, 97, 115, 40, 120, 44, 32, 39, 97, 39, 41]⟩, v] W fun e w' => e = .returned (.tuple #[.bool true, .int .i64 0]) ∧ Below W.heap.size W w') := Lib.hid (fun W v h1 h2 => by
    have h := wHolds exB exB_ok v ex2 (by decide) m W h1 h2
    rw [ex2_is] at h
    exact h)
  have H3 : Hid (∀ W, MaxLn m W → Calls Tryz.prog 23 #[.string ⟨#[49, 32, 47, 32, 48, 32, 62, 32, 53]⟩, .slice none 0 0] W fun e w' => e = .returned (.tuple #[.bool true, .int .i64 0]) ∧ Below W.heap.size W w') := Lib.hid (fun W h2 => by
    have h := wHolds [] nil_ok _ ex3 (by decide) m W (BndV.nil W) h2
    rw [ex3_is] at h
    exact h)
  have H4 : Hid (∀ W, MaxLn m W → Calls Tryz.prog 23 #[.string ⟨#[48, 32, 47, 32, 48, 32, 61, 32, 48, 32, 47, 32, 48]⟩, .slice none 0 0] W fun e w' => e = .returned (.tuple #[.bool false, .int .i64 0]) ∧ Below W.heap.size W w') := Lib.hid (fun W h2 => by
    have h := wHolds [] nil_ok _ ex4 (by decide) m W (BndV.nil W) h2
    rw [ex4_is] at h
    exact h)
  have HB1 := Lib.hid (bel1 w (.cells #[.string ⟨#[120]⟩, .int .i64 2, .float .f64 0, .string ⟨#[98, 99, 100]⟩, .bool false] 53))
  have HX : Hid ((w.alloc (.cells #[.string ⟨#[120]⟩, .int .i64 2, .float .f64 0, .string ⟨#[98, 99, 100]⟩, .bool false] 53)).heap[w.heap.size]? = some (.cells #[.string ⟨#[120]⟩, .int .i64 2, .float .f64 0, .string ⟨#[98, 99, 100]⟩, .bool false] 53 (0, 0))) := Lib.hid (heap_alloc_new _ _)
  clear hm
  go_enter Tryz.func8, Tryz.ntmps8
  go_wp2_with (first | (go_at_call 5; fail))
  generalize w.alloc (.cells #[.string ⟨#[120]⟩, .int .i64 2, .float .f64 0, .string ⟨#[98, 99, 100]⟩, .bool false] 53) = W0 at HB1 HX ⊢
  go_at_call 5
  refine (HP.out W0).mono ?_
  rintro e w2 ⟨v2, rfl, hv2, hb2⟩
  obtain ⟨o, n, s, x, k, c, rfl⟩ := hv2.agg
  have hx2 := (hb2.block w.heap.size (Array.getElem?_eq_some_iff.1 HX.out).1).trans HX.out
  have hl2 := (Array.getElem?_eq_some_iff.1 hx2).1
  have c0 : w2.cell? ⟨w.heap.size, 0, none⟩ = some (.string ⟨#[120]⟩) := by simp [World.cell?, hx2]
  have c1 : w2.cell? ⟨w.heap.size, 1, none⟩ = some (.int .i64 2) := by simp [World.cell?, hx2]
  have c2 : w2.cell? ⟨w.heap.size, 2, none⟩ = some (.float .f64 0) := by simp [World.cell?, hx2]
  have c3 : w2.cell? ⟨w.heap.size, 3, none⟩ = some (.string ⟨#[98, 99, 100]⟩) := by simp [World.cell?, hx2]
  have c4 : w2.cell? ⟨w.heap.size, 4, none⟩ = some (.bool false) := by simp [World.cell?, hx2]
  have HB2 := Lib.hid (HB1.out.trans (below_le hb2 HB1.out.size))
  clear hx2 hb2 hv2 HP HX
  go_wp2_with (first | (go_at_call 23; fail))
  have HBR : Hid (BndV ((w2.alloc (.cells #[.string o, .float .f64 n, .string s, .slice x k c] 25)).alloc (.cells #[.string ⟨#[120]⟩, .int .i64 2, .float .f64 0, .string ⟨#[98, 99, 100]⟩, .bool false] 53)) (.slice (some ⟨w2.heap.size + 1, 0, none⟩) 1 1) exB) := Lib.hid (exB_row (by simpa using heap_alloc_new (w2.alloc (.cells #[.string o, .float .f64 n, .string s, .slice x k c] 25)) (.cells #[.string ⟨#[120]⟩, .int .i64 2, .float .f64 0, .string ⟨#[98, 99, 100]⟩, .bool false] 53)))
  have HB3 := Lib.hid ((HB2.out.alloc HB2.out.size (.cells #[.string o, .float .f64 n, .string s, .slice x k c] 25)).alloc (by have := HB2.out.size; simp; omega) (.cells #[.string ⟨#[120]⟩, .int .i64 2, .float .f64 0, .string ⟨#[98, 99, 100]⟩, .bool false] 53))
  refine (H2.out _ _ HBR.out (HMX.out.below HB3.out)).mono ?_
  rintro e w4 ⟨rfl, hb4⟩
  have HB4 := Lib.hid (HB3.out.trans (below_le hb4 HB3.out.size))
  clear hb4 HBR HB3 HB2 c0 c1 c2 c3 c4
  go_wp2_with (first | (go_at_call 23; fail))
  refine (H3.out _ (HMX.out.below HB4.out)).mono ?_
  rintro e w5 ⟨rfl, hb5⟩
  have HB5 := Lib.hid (HB4.out.trans (below_le hb5 HB4.out.size))
  clear hb5 HB4
  go_wp2_with (first | (go_at_call 23; fail))
  refine (H4.out _ (HMX.out.below HB5.out)).mono ?_
  rintro e w6 ⟨rfl, hb6⟩
  have HB6 := Lib.hid (HB5.out.trans (below_le hb6 HB5.out.size))
  clear hb6 HB5
  go_wp2
  go_ret
  exact ⟨rfl, HB6.out⟩
set_option maxHeartbeats 1000000 in
theorem wlawCut (l : Bs) (w : World) : Calls Tryz.prog 6 #[.string (tx l)] w fun e w' => e = .returned (.string (tx (l.take 400))) ∧ w = w' := by
  have HS := Lib.hid (tx_size' l)
  have hm : min ((tx l).size : Int) 400 = ((min l.length 400 : Nat) : Int) := by rw [HS.out]; omega
  have hle : ((min l.length 400 : Nat) : Int) ≤ ((tx l).size : Int) := by rw [HS.out]; omega
  have hle2 : min l.length 400 ≤ (tx l).size := by rw [HS.out]; omega
  have HE : Hid ((tx l).extract 0 (min l.length 400) = tx (l.take 400)) := Lib.hid (by
    rw [tx_extract, List.drop_zero, Nat.sub_zero]
    by_cases h : l.length ≤ 400
    · rw [Nat.min_eq_left h, List.take_length, List.take_of_length_le h]
    · rw [Nat.min_eq_right (by omega)])
  generalize min l.length 400 = K at hm hle hle2 HE
  go_enter Tryz.func6, Tryz.ntmps6
  go_wp2
  go_ret
  exact ⟨by rw [← HE.out]; rfl, rfl⟩
end Go.Proofs.YtfalcmbjjlgoaaaGreatDoor
/- Walk: the law RuleBack. -/
namespace Go.Proofs.YtfalcmbjjlgoaaaGreatDoor
open Go.RowKit Go.Shelf Ieee Go.Lib
attribute [local go_sem] run_store_float
mutual
theorem lenT_tx {k : Nat} : ∀ t : Tree, txT k t → lenT t + 2 ≤ (k + 26) * szT t
  | .mk _ _ s c, h => by
    have h1 := lenL_tx c h.2
    have h2 := h.1
    simp only [lenT, szT]
    rw [Nat.mul_add]
    omega
theorem lenL_tx {k : Nat} : ∀ c : List Tree, txL k c → lenL c ≤ (k + 26) * szL c
  | [], _ => by simp [lenL]
  | t :: r, h => by
    have h1 := lenT_tx t h.1
    have h2 := lenL_tx r h.2
    simp only [lenL, szL]
    rw [Nat.mul_add]
    omega
end
theorem parse_err' (l : Bs) : (parseP l).2 = 0 ∨ (parseP l).2 = 2 ∨ (parseP l).2 = 190 := by
  unfold parseP
  split
  · exact .inr (.inl rfl)
  · cases readP l with
    | none => exact .inr (.inr rfl)
    | some t =>
      simp only
      split
      · exact .inr (.inr rfl)
      · exact .inl rfl
theorem parse_wf {l : Bs} (h : (parseP l).2 = 0) : WF parsedN (parseP l).1 := by
  unfold parseP at h ⊢
  split at h
  · cases h
  · rename_i q
    rw [if_neg q]
    cases hr : readP l with
    | none => rw [hr] at h; cases h
    | some t =>
      rw [hr] at h
      simp only at h ⊢
      split at h
      · cases h
      · rename_i q2
        rw [if_neg q2]
        exact read_wf hr
set_option maxRecDepth 100000 in
set_option maxHeartbeats 8000000 in
theorem back_tx (l : Bs) (m : Int) (w : World) (hm : MaxLn m w) (hp : PwT w) : Calls Tryz.prog 3 #[.string (tx l)] w fun e w' => e = .returned (.bool true) ∧ Below w.heap.size w w' := by
  have HCUT := Lib.hid (wlawCut l w)
  have HMX := Lib.hid hm
  have HPW := Lib.hid hp
  obtain ⟨S, hS⟩ : ∃ S, S = l.take 400 := ⟨_, rfl⟩
  have hSl : S.length ≤ 400 := by rw [hS, List.length_take]; omega
  rw [← hS] at HCUT
  have HP1 := Lib.hid (fun W => wparse S (by omega) W)
  unfold ParseEnd at HP1
  obtain ⟨t, ht⟩ : ∃ t, t = (parseP S).1 := ⟨_, rfl⟩
  obtain ⟨E, hE⟩ : ∃ E, E = (parseP S).2 := ⟨_, rfl⟩
  have HSZ : Hid (szT t ≤ 1000000 ∧ lenT t ≤ 900000) := Lib.hid (by
    have h1 := parse_sz S
    have h2 := lenT_tx _ (parse_tx S)
    rw [← ht] at h1 h2
    have h3 : (S.length + 26) * szT t ≤ 426 * 401 := Nat.mul_le_mul (by omega) (by omega)
    exact ⟨by omega, by omega⟩)
  have HER : Hid (E = 0 ∨ E = 2 ∨ E = 190) := Lib.hid (by rw [hE]; exact parse_err' S)
  have HWF : Hid (E = 0 → inT t) := Lib.hid (fun h => by rw [ht]; exact (parse_wf (hE.symm.trans h)).inT)
  have HBK : Hid (E = 0 → whoT t = true → (prtT numT t).length ≤ 256 → parseP (prtT numT t) = (t, 0)) := Lib.hid (fun h hw hl => by
    refine back_plain (s := S) ?_ hw hl
    rw [ht, ← h, hE])
  rw [← ht, ← hE] at HP1
  clear hm hS ht hE hSl hp
  go_enter Tryz.func3, Tryz.ntmps3
  go_wp2_with (first | (go_at_call 6; refine (HCUT.out).mono ?_; rintro e w1 ⟨rfl, rfl⟩) | (go_at_call 5; fail))
  go_at_call 5
  refine (HP1.out _).mono ?_
  rintro e w2 ⟨va, rfl, hva, hb2⟩
  obtain ⟨o1, n1, s1, x1, l1, c1, rfl⟩ := hva.agg
  have hal : Below w2.heap.size w2 (w2.alloc (.cells #[.string o1, .float .f64 n1, .string s1, .slice x1 l1 c1] 25)) := (Below.refl _ _).alloc (Nat.le_refl _) _
  have HB3 := Lib.hid (hb2.trans (below_le hal hb2.size))
  have HN3 := Lib.hid (hva.below hal)
  have HG3 : Hid (NB (w2.alloc (.cells #[.string o1, .float .f64 n1, .string s1, .slice x1 l1 c1] 25)) w2.heap.size (.agg #[.string o1, .float .f64 n1, .string s1, .slice x1 l1 c1])) := Lib.hid ⟨_, _, _, _, rfl, heap_alloc_new _ _⟩
  clear hb2 hva hal HP1
  go_upto_region 2 with (fail)
  generalize w2.alloc (.cells #[.string o1, .float .f64 n1, .string s1, .slice x1 l1 c1] 25) = W3 at HB3 HN3 HG3 ⊢
  generalize w2.heap.size = g3 at HG3 ⊢
  have HAW : Hid (∀ W, Below w.heap.size w W → Calls Tryz.prog 8 #[] W fun e w' => e = .returned (.bool true) ∧ Below w.heap.size w w') := Lib.hid (fun W hW =>
    (wawake m W (HMX.out.below hW)).mono fun e w' h => ⟨h.1, hW.trans (below_le h.2 hW.size)⟩)
  obtain ⟨p0, p1, p2, p3, _⟩ := HG3.out.cells
  have hlt := HG3.out.lt
  by_cases q : E = 0
  · subst q
    have HWH : Hid (∀ W, Below W3.heap.size W3 W → Calls Tryz.prog 7 #[.agg #[.string o1, .float .f64 n1, .string s1, .slice x1 l1 c1]] W fun e w' => e = .returned (.bool (whoT t)) ∧ Below W.heap.size W w') := Lib.hid (fun W hW =>
      wwholes _ t (Nat.le_refl _) _ _ W HSZ.out.1 (HWF.out rfl) (HN3.out.below hW))
    have b0 : (((0 : Nat) : Int) != 0) = false := rfl
    cases hw : whoT t
    · rw [hw] at HWH
      go_wp2_with (first | (go_at_call 7; fail))
      go_at_call 7
      refine (HWH.out _ (Below.refl _ _)).mono ?_
      rintro e w4 ⟨rfl, hb4⟩
      have HB4 := Lib.hid (HB3.out.trans (below_le hb4 HB3.out.size))
      clear hb4 p0 p1 p2 p3 hlt
      go_wp2_with (first | (go_at_call 8; fail))
      go_at_call 8
      refine (HAW.out _ HB4.out).mono ?_
      rintro e w5 ⟨rfl, hb5⟩
      have HB5 := Lib.hid hb5
      clear hb5
      go_wp2
      go_ret
      exact ⟨rfl, HB5.out⟩
    · rw [hw] at HWH
      have HBK2 := Lib.hid (HBK.out rfl hw)
      have HPR : Hid (∀ W, Below W3.heap.size W3 W → Calls Tryz.prog 9 #[.agg #[.string o1, .float .f64 n1, .string s1, .slice x1 l1 c1]] W fun e w' => e = .returned (.string (tx (prtT numT t))) ∧ Below W.heap.size W w') := Lib.hid (fun W hW =>
        wPrint _ t (Nat.le_refl _) _ _ W HSZ.out.2 (HPW.out.below (HB3.out.trans (below_le hW HB3.out.size))) (HN3.out.below hW))
      clear HBK HPW hw
      generalize prtT numT t = PR at HPR HBK2
      have HPS := Lib.hid (tx_size' PR)
      go_wp2_with (first | (go_at_call 7; fail))
      go_at_call 7
      refine (HWH.out _ (Below.refl _ _)).mono ?_
      rintro e w4 ⟨rfl, hb4⟩
      have HC4 := Lib.hid ((Below.refl _ _).trans hb4 : Below W3.heap.size W3 w4)
      have HG4 := Lib.hid (HG3.out.below hb4)
      clear hb4 p0 p1 p2 p3 hlt HWH b0
      obtain ⟨p0, p1, p2, p3, _⟩ := HG4.out.cells
      have hlt := HG4.out.lt
      go_wp2_with (first | (go_at_call 9; fail))
      go_at_call 9
      refine (HPR.out _ HC4.out).mono ?_
      rintro e w5 ⟨rfl, hb5⟩
      have HC5 := Lib.hid (HC4.out.trans (below_le hb5 HC4.out.size))
      have HG5 := Lib.hid (HG4.out.below hb5)
      clear hb5 p0 p1 p2 p3 hlt HPR HC4 HG4
      by_cases q3 : 256 < PR.length
      · have q4 : 256 < ((tx PR).size : Int) := by have := HPS.out; omega
        go_wp2_with (first | (go_at_call 8; fail))
        go_at_call 8
        refine (HAW.out _ (HB3.out.trans (below_le HC5.out HB3.out.size))).mono ?_
        rintro e w6 ⟨rfl, hb6⟩
        have HB6 := Lib.hid hb6
        clear hb6
        go_wp2
        go_ret
        exact ⟨rfl, HB6.out⟩
      · have q4 : ¬ 256 < ((tx PR).size : Int) := by have := HPS.out; omega
        have HP2 := Lib.hid (fun W => wparse PR (by omega) W)
        unfold ParseEnd at HP2
        rw [HBK2.out (by omega)] at HP2
        go_wp2_with (first | (go_at_call 5; fail))
        go_at_call 5
        refine (HP2.out _).mono ?_
        rintro e w6 ⟨vb, rfl, hvb, hb6⟩
        obtain ⟨o2, n2, s2, x2, l2, c2, rfl⟩ := hvb.agg
        have hal : Below w6.heap.size w6 (w6.alloc (.cells #[.string o2, .float .f64 n2, .string s2, .slice x2 l2 c2] 25)) := (Below.refl _ _).alloc (Nat.le_refl _) _
        have HC6 := Lib.hid ((HC5.out.trans (below_le hb6 HC5.out.size)).trans (below_le hal (by have := HC5.out.size; have := hb6.size; omega)))
        have HG6 := Lib.hid ((HG5.out.below hb6).below hal)
        have HN6 := Lib.hid (hvb.below hal)
        have HG7 : Hid (NB (w6.alloc (.cells #[.string o2, .float .f64 n2, .string s2, .slice x2 l2 c2] 25)) w6.heap.size (.agg #[.string o2, .float .f64 n2, .string s2, .slice x2 l2 c2])) := Lib.hid ⟨_, _, _, _, rfl, heap_alloc_new _ _⟩
        clear hb6 hvb hal HP2 q4 HPS HBK2 HC5 HG5
        go_upto_region 8 with (fail)
        have HN7 := Lib.hid (HN3.out.below HC6.out)
        have HB7 := Lib.hid (HB3.out.trans (below_le HC6.out HB3.out.size))
        generalize w6.alloc (.cells #[.string o2, .float .f64 n2, .string s2, .slice x2 l2 c2] 25) = W0 at HC6 HG6 HN6 HG7 HN7 HB7 ⊢
        generalize w6.heap.size = g4 at HG7 ⊢
        have HRD : Hid (∀ W, Below W0.heap.size W0 W → Below W0.heap.size W0 W ∧ W.cell? ⟨g3, 0, none⟩ = some (.string o1) ∧ W.cell? ⟨g3, 1, none⟩ = some (.float .f64 n1) ∧ W.cell? ⟨g3, 2, none⟩ = some (.string s1) ∧ W.cell? ⟨g3, 3, none⟩ = some (.slice x1 l1 c1) ∧ W.cell? ⟨g4, 0, none⟩ = some (.string o2) ∧ W.cell? ⟨g4, 1, none⟩ = some (.float .f64 n2) ∧ W.cell? ⟨g4, 2, none⟩ = some (.string s2) ∧ W.cell? ⟨g4, 3, none⟩ = some (.slice x2 l2 c2)) := Lib.hid (fun W hW => by
          obtain ⟨a0, a1, a2, a3, _⟩ := (HG6.out.below hW).cells
          obtain ⟨c0, c1, c2, c3, _⟩ := (HG7.out.below hW).cells
          exact ⟨hW, a0, a1, a2, a3, c0, c1, c2, c3⟩)
        have HSN : Hid (∀ W, Below W0.heap.size W0 W → Calls Tryz.prog 10 #[.agg #[.string o1, .float .f64 n1, .string s1, .slice x1 l1 c1], .agg #[.string o2, .float .f64 n2, .string s2, .slice x2 l2 c2]] W fun e w' => e = .returned (.bool true) ∧ Below W0.heap.size W0 w') := Lib.hid (fun W hW =>
          (rsameNode _ t (Nat.le_refl _) _ _ _ _ W HSZ.out.1 (HN7.out.below hW) (HN6.out.below hW)).mono fun e w' h => ⟨h.1, hW.trans (below_le h.2 hW.size)⟩)
        have HAW2 : Hid (∀ W, Below W0.heap.size W0 W → Calls Tryz.prog 8 #[] W fun e w' => e = .returned (.bool true) ∧ Below W0.heap.size W0 w') := Lib.hid (fun W hW =>
          (wawake m W ((HMX.out.below HB7.out).below hW)).mono fun e w' h => ⟨h.1, hW.trans (below_le h.2 hW.size)⟩)
        clear HN7 HG6 HN6 HG7 HC6 HAW HN3 HG3
        obtain ⟨_, a0, a1, a2, a3, k0, k1, k2, k3⟩ := HRD.out W0 (Below.refl _ _)
        go_wp2_with (first | (go_at_call 10; fail))
        go_at_call 10
        refine (HSN.out _ (Below.refl _ _)).mono ?_
        rintro e y1 ⟨rfl, hb⟩
        have HB11 := Lib.hid hb
        clear hb a0 a1 a2 a3 k0 k1 k2 k3
        go_wp2_with (first | (go_at_call 8; fail))
        go_at_call 8
        refine (HAW2.out _ HB11.out).mono ?_
        rintro e y4 ⟨rfl, hb⟩
        have HB14 := Lib.hid hb
        clear hb
        go_wp2
        go_ret
        exact ⟨rfl, HB7.out.trans (below_le HB14.out HB7.out.size)⟩
  · have hE2 : E = 2 ∨ E = 190 := by
      rcases HER.out with h | h
      · exact absurd h q
      · exact h
    clear q
    rcases hE2 with rfl | rfl
    all_goals
      go_wp2_with (first | (go_at_call 8; fail))
      go_at_call 8
      refine (HAW.out _ HB3.out).mono ?_
      rintro e w4 ⟨rfl, hb4⟩
      have HB4 := Lib.hid hb4
      clear hb4
      go_wp2
      go_ret
      exact ⟨rfl, HB4.out⟩
end Go.Proofs.YtfalcmbjjlgoaaaGreatDoor
