/- Own texts, merged: SH, W5, TN. -/
import Derived.Shelf.Vars
import Derived.HandedShaped
import Derived.Test.YtfalcmbjjlgoaaaGreatDoorMT38
import Derived.Test.YtfalcmbjjlgoaaaGreatDoorMT43
import Derived.Test.YtfalcmbjjlgoaaaGreatDoorMT45
import Derived.Test.YtfalcmbjjlgoaaaGreatDoorMT46
import Derived.Test.YtfalcmbjjlgoaaaGreatDoorMT47
import Derived.Test.YtfalcmbjjlgoaaaGreatDoorMT48
/- Walks: the page's example, cut; the law RuleParses. -/
namespace Go.Proofs.YtfalcmbjjlgoaaaGreatDoor
open Go.RowKit Go.Shelf Ieee
attribute [local go_sem] run_store_float
theorem maxLn_of {w : World} (h : w.ShapedOpen Tryz.prog) : ∃ m, MaxLn m w :=
  Go.Proofs.cell_of_shapedOpen_int (zero := #[.int .i64 0]) (t := 3) h (of_decide_eq_true (by kernel_rfl)) (by kernel_rfl) rfl (by kernel_rfl) (by kernel_rfl) Tryz.underlying3
theorem MaxLn.lt {m : Int} {w : World} (h : MaxLn m w) : 1 < w.heap.size := cell_lt h
theorem exB_ok : BOk exB := ⟨by decide, fun b hb => by
  rcases List.mem_cons.1 hb with rfl | hb
  · decide
  · cases hb⟩
theorem nil_ok : BOk [] := ⟨by decide, fun b hb => by cases hb⟩
theorem exB_row {w : World} {g : Nat} (h : w.heap[g]? = some (.cells #[.string ⟨#[120]⟩, .int .i64 2, .float .f64 0, .string ⟨#[98, 99, 100]⟩, .bool false] 53 (0, 0))) : BndV w (.slice (some ⟨g, 0, none⟩) 1 1) exB := by
  refine ⟨_, 1, rfl, Nat.le_refl _, (fun e => by cases e), fun a ha => ?_⟩
  cases ha
  refine ⟨fun _ => (Array.getElem?_eq_some_iff.1 h).1, fun i b hi => ?_⟩
  match i, hi with
  | 0, hi =>
    cases hi
    exact ⟨by rw [addr_add]; simp [World.cell?, h]; rfl, by rw [addr_add]; simp [World.cell?, h], by rw [addr_add]; simp [World.cell?, h], by rw [addr_add]; simp [World.cell?, h]; rfl, by rw [addr_add]; simp [World.cell?, h]⟩
set_option maxRecDepth 100000 in
set_option maxHeartbeats 4000000 in
theorem wawake (m : Int) (w : World) (hm : MaxLn m w) : Calls Tryz.prog 8 #[] w fun e w' => e = .returned (.bool true) ∧ Below w.heap.size w w' := by
  have HMX := Lib.hid hm
  have HP : Hid (∀ W, Calls Tryz.prog 5 #[.string ⟨#[108, 101, 110, 32, 120, 32, 62, 61, 32, 51]⟩] W fun e w' => ∃ v, e = .returned (.tuple #[v, .int .i64 190]) ∧ NodeV (fun b => W.heap.size ≤ b) w' v (parseP ex1).1 ∧ Below W.heap.size W w') := Lib.hid (fun W => by
    have h := wparse ex1 (by decide) W
    unfold ParseEnd at h
    rw [ex1_is] at h
    exact h)
  have H2 : Hid (∀ W v, BndV W v exB → MaxLn m W → Calls Tryz.prog 23 #[.string ⟨#[108, 101, 110, 40, 120, 41, 32, 62, 61, 32, 51, 32, 97, 110, 100, 32, 110, 111, 116, 32, 104, 97, 115, 40, 120, 44, 32, 39, 97, 39, 41]⟩, v] W fun e w' => e = .returned (.tuple #[.bool true, .int .i64 0]) ∧ Below W.heap.size W w') := Lib.hid (fun W v h1 h2 => by
    have h := wHolds exB exB_ok v ex2 (by decide) m W h1 h2
    rw [ex2_is] at h
    exact h)
  have H3 : Hid (∀ W, MaxLn m W → Calls Tryz.prog 23 #[.string ⟨#[49, 32, 47, 32, 48, 32, 62, 32, 53]⟩, .slice none 0 0] W fun e w' => e = .returned (.tuple #[.bool true, .int .i64 0]) ∧ Below W.heap.size W w') := Lib.hid (fun W h2 => by
    have h := wHolds [] nil_ok _ ex3 (by decide) m W (BndV.nil W) h2
    rw [ex3_is] at h
    exact h)
  have H4 : Hid (∀ W, MaxLn m W → Calls Tryz.prog 23 #[.string ⟨#[48, 32, 47, 32, 48, 32, 61, 32, 48, 32, 47, 32, 48]⟩, .slice none 0 0] W fun e w' => e = .returned (.tuple #[.bool false, .int .i64 0]) ∧ Below W.heap.size W w') := Lib.hid (fun W h2 => by
    have h := wHolds [] nil_ok _ ex4 (by decide) m W (BndV.nil W) h2
    rw [ex4_is] at h
    exact h)
  have HB1 := Lib.hid (bel1 w (.cells #[.string ⟨#[120]⟩, .int .i64 2, .float .f64 0, .string ⟨#[98, 99, 100]⟩, .bool false] 53))
  have HX : Hid ((w.alloc (.cells #[.string ⟨#[120]⟩, .int .i64 2, .float .f64 0, .string ⟨#[98, 99, 100]⟩, .bool false] 53)).heap[w.heap.size]? = some (.cells #[.string ⟨#[120]⟩, .int .i64 2, .float .f64 0, .string ⟨#[98, 99, 100]⟩, .bool false] 53 (0, 0))) := Lib.hid (heap_alloc_new _ _)
  clear hm
  go_enter Tryz.func8, Tryz.ntmps8
  go_wp2_with (first | (go_at_call 5; fail))
  generalize w.alloc (.cells #[.string ⟨#[120]⟩, .int .i64 2, .float .f64 0, .string ⟨#[98, 99, 100]⟩, .bool false] 53) = W0 at HB1 HX ⊢
  go_at_call 5
  refine (HP.out W0).mono ?_
  rintro e w2 ⟨v2, rfl, hv2, hb2⟩
  obtain ⟨o, n, s, x, k, c, rfl⟩ := hv2.agg
  have hx2 := (hb2.block w.heap.size (Array.getElem?_eq_some_iff.1 HX.out).1).trans HX.out
  have hl2 := (Array.getElem?_eq_some_iff.1 hx2).1
  have c0 : w2.cell? ⟨w.heap.size, 0, none⟩ = some (.string ⟨#[120]⟩) := by simp [World.cell?, hx2]
  have c1 : w2.cell? ⟨w.heap.size, 1, none⟩ = some (.int .i64 2) := by simp [World.cell?, hx2]
  have c2 : w2.cell? ⟨w.heap.size, 2, none⟩ = some (.float .f64 0) := by simp [World.cell?, hx2]
  have c3 : w2.cell? ⟨w.heap.size, 3, none⟩ = some (.string ⟨#[98, 99, 100]⟩) := by simp [World.cell?, hx2]
  have c4 : w2.cell? ⟨w.heap.size, 4, none⟩ = some (.bool false) := by simp [World.cell?, hx2]
  have HB2 := Lib.hid (HB1.out.trans (below_le hb2 HB1.out.size))
  clear hx2 hb2 hv2 HP HX
  go_wp2_with (first | (go_at_call 23; fail))
  have HBR : Hid (BndV ((w2.alloc (.cells #[.string o, .float .f64 n, .string s, .slice x k c] 25)).alloc (.cells #[.string ⟨#[120]⟩, .int .i64 2, .float .f64 0, .string ⟨#[98, 99, 100]⟩, .bool false] 53)) (.slice (some ⟨w2.heap.size + 1, 0, none⟩) 1 1) exB) := Lib.hid (exB_row (by simpa using heap_alloc_new (w2.alloc (.cells #[.string o, .float .f64 n, .string s, .slice x k c] 25)) (.cells #[.string ⟨#[120]⟩, .int .i64 2, .float .f64 0, .string ⟨#[98, 99, 100]⟩, .bool false] 53)))
  have HB3 := Lib.hid ((HB2.out.alloc HB2.out.size (.cells #[.string o, .float .f64 n, .string s, .slice x k c] 25)).alloc (by have := HB2.out.size; simp; omega) (.cells #[.string ⟨#[120]⟩, .int .i64 2, .float .f64 0, .string ⟨#[98, 99, 100]⟩, .bool false] 53))
  refine (H2.out _ _ HBR.out (HMX.out.below HB3.out)).mono ?_
  rintro e w4 ⟨rfl, hb4⟩
  have HB4 := Lib.hid (HB3.out.trans (below_le hb4 HB3.out.size))
  clear hb4 HBR HB3 HB2 c0 c1 c2 c3 c4
  go_wp2_with (first | (go_at_call 23; fail))
  refine (H3.out _ (HMX.out.below HB4.out)).mono ?_
  rintro e w5 ⟨rfl, hb5⟩
  have HB5 := Lib.hid (HB4.out.trans (below_le hb5 HB4.out.size))
  clear hb5 HB4
  go_wp2_with (first | (go_at_call 23; fail))
  refine (H4.out _ (HMX.out.below HB5.out)).mono ?_
  rintro e w6 ⟨rfl, hb6⟩
  have HB6 := Lib.hid (HB5.out.trans (below_le hb6 HB5.out.size))
  clear hb6 HB5
  go_wp2
  go_ret
  exact ⟨rfl, HB6.out⟩
set_option maxHeartbeats 1000000 in
theorem wlawCut (l : Bs) (w : World) : Calls Tryz.prog 6 #[.string (tx l)] w fun e w' => e = .returned (.string (tx (l.take 400))) ∧ w = w' := by
  have HS := Lib.hid (tx_size' l)
  have hm : min ((tx l).size : Int) 400 = ((min l.length 400 : Nat) : Int) := by rw [HS.out]; omega
  have hle : ((min l.length 400 : Nat) : Int) ≤ ((tx l).size : Int) := by rw [HS.out]; omega
  have hle2 : min l.length 400 ≤ (tx l).size := by rw [HS.out]; omega
  have HE : Hid ((tx l).extract 0 (min l.length 400) = tx (l.take 400)) := Lib.hid (by
    rw [tx_extract, List.drop_zero, Nat.sub_zero]
    by_cases h : l.length ≤ 400
    · rw [Nat.min_eq_left h, List.take_length, List.take_of_length_le h]
    · rw [Nat.min_eq_right (by omega)])
  generalize min l.length 400 = K at hm hle hle2 HE
  go_enter Tryz.func6, Tryz.ntmps6
  go_wp2
  go_ret
  exact ⟨by rw [← HE.out]; rfl, rfl⟩
end Go.Proofs.YtfalcmbjjlgoaaaGreatDoor
/- Walk: the law RuleTypes. -/
namespace Go.Proofs.YtfalcmbjjlgoaaaGreatDoor
open Go.RowKit Go.Shelf Ieee Go.Lib
attribute [local go_sem] run_store_float
mutual
theorem lenT_le : ∀ t : Tree, szS t ≤ 400 → lenT t + 2 ≤ 40 * szS t
  | .mk _ _ s c, h => by
    simp only [szS] at h ⊢
    have h1 := lenL_le c (1 + s.length / 8) h
    simp only [lenT]
    omega
theorem lenL_le : ∀ (c : List Tree) (k : Nat), szSL k c ≤ 400 → 40 * k + lenL c ≤ 40 * szSL k c
  | [], k, _ => by simp [lenL, szSL]
  | t :: r, k, h => by
    simp only [szSL] at h ⊢
    by_cases q : k ≤ 400
    · rw [if_pos q] at h ⊢
      have h0 := szSL_mono r (k + szS t)
      have h1 := lenT_le t (by omega)
      have h2 := lenL_le r (k + szS t) h
      simp only [lenL]
      omega
    · rw [if_neg q] at h
      omega
end
set_option maxRecDepth 100000 in
set_option maxHeartbeats 16000000 in
theorem types_tx (t : Tree) (hbk : bkT t ≤ 2000000) (A : Nat → Prop) (v : Value) (L : List Bnd) (hL : L.length ≤ 2000000) (vb : Value) (m : Int) (w : World) (hv : NodeV A w v t) (hbv : BndV w vb L) (hm : MaxLn m w) (hpw : PwT w) :
    Calls Tryz.prog 4 #[v, vb] w fun e w' => e = .returned (.bool true) ∧ Below w.heap.size w w' := by
  have HSZ := Lib.hid (fun W (h : NodeV A W v t) => wsize _ t (Nat.le_refl _) A v W hbk h)
  have HAW := Lib.hid (fun W (h : Below w.heap.size w W) => wawake m W (hm.below h))
  have HFW := Lib.hid (fun W (h : BndV W vb L) => wfew vb L hL W h)
  have HV := Lib.hid hv
  have HBV := Lib.hid hbv
  have HSM : Hid (szS t ≤ 400 → szT t ≤ 400 ∧ lenT t ≤ 900000) := Lib.hid (fun h => by
    have h1 := small_T t h
    have h2 := lenT_le t h
    exact ⟨by omega, by omega⟩)
  have HFL : Hid ((fewB L).length ≤ 1000000) := Lib.hid (by unfold fewB; rw [List.length_map, List.length_take]; omega)
  obtain ⟨F, hF⟩ : ∃ F, F = fewB L := ⟨_, rfl⟩
  rw [← hF] at HFW HFL
  have HTO := Lib.hid (fun (h0 : szS t ≤ 400) (u : Value) W (h : NodeV A W v t) (k : BndV W u F) => wtypeOf F HFL.out u t A v W (by have := (HSM.out h0).1; omega) h k)
  have HRO := Lib.hid (fun (h0 : szS t ≤ 400) (u : Value) W (h : NodeV A W v t) (k : BndV W u F) => rtypeOf F HFL.out u t A v W (by have := (HSM.out h0).1; omega) h k)
  have HNA := Lib.hid (fun (h0 : szS t ≤ 400) W (h : Below w.heap.size w W) => wNames t (by have := (HSM.out h0).1; omega) A v W (hv.below h))
  have HRN := Lib.hid (fun (h0 : szS t ≤ 400) W (h : Below w.heap.size w W) => rNames _ t (Nat.le_refl _) A v W (by have := (HSM.out h0).1; omega) (hv.below h))
  have HDE := Lib.hid (fun (h0 : szS t ≤ 400) W (h : Below w.heap.size w W) => wdepth _ t (Nat.le_refl _) A v W (by have := (HSM.out h0).1; omega) (hv.below h))
  have HRD := Lib.hid (fun (h0 : szS t ≤ 400) W (h : Below w.heap.size w W) => rdepth _ t (Nat.le_refl _) A v W (by have := (HSM.out h0).1; omega) (hv.below h))
  have HPR := Lib.hid (fun (h0 : szS t ≤ 400) W (h : Below w.heap.size w W) => wPrint _ t (Nat.le_refl _) A v W (HSM.out h0).2 (hpw.below h) (hv.below h))
  have HRP := Lib.hid (fun (h0 : szS t ≤ 400) W (h : Below w.heap.size w W) => rPrint _ t (Nat.le_refl _) A v W (HSM.out h0).2 (hv.below h))
  rw [← nmP_ref] at HRN
  obtain ⟨NM, hNM⟩ : ∃ NM, NM = nmP t := ⟨_, rfl⟩
  rw [← hNM] at HNA HRN
  have HSA := Lib.hid (fun W u1 u2 (h1 : TxV W u1 NM) (h2 : TxV W u2 NM) => (by have h := rsame u1 u2 NM NM W h1 h2; rw [decide_eq_true rfl] at h; exact h : Calls Tryz.prog 15 #[u1, u2] W fun e w' => e = .returned (.bool true) ∧ Below W.heap.size W w'))
  obtain ⟨TT, hTT⟩ : ∃ TT, TT = tyP F t := ⟨_, rfl⟩
  rw [← hTT] at HTO HRO
  obtain ⟨T1, T2⟩ := TT
  simp only at HTO HRO
  generalize prtT numT t = PR at HPR HRP
  generalize depT t = D at HDE HRD
  obtain ⟨o, n, s, x, k, c, rfl⟩ := hv.agg
  obtain ⟨bx, bn, bc, rfl⟩ := hbv.agg
  have HB0 := Lib.hid (bel1 w (.cells #[.string o, .float .f64 n, .string s, .slice x k c] 25))
  have HNB : Hid (NB (w.alloc (.cells #[.string o, .float .f64 n, .string s, .slice x k c] 25)) w.heap.size (.agg #[.string o, .float .f64 n, .string s, .slice x k c])) := Lib.hid ⟨_, _, _, _, rfl, heap_alloc_new _ _⟩
  clear hv hbv hm hbk hL hF hTT hNM HSM HFL hpw
  go_enter Tryz.func4, Tryz.ntmps4
  go_wp2_with (first | (go_at_call 11; fail))
  generalize w.alloc (.cells #[.string o, .float .f64 n, .string s, .slice x k c] 25) = W0 at HB0 HNB ⊢
  go_at_call 11
  refine (HSZ.out W0 (HV.out.below HB0.out)).mono ?_
  rintro e w2 ⟨rfl, hb2⟩
  have HB2 := Lib.hid (HB0.out.trans (below_le hb2 HB0.out.size))
  have HNB2 := Lib.hid (HNB.out.below hb2)
  clear hb2 HSZ HB0 HNB
  by_cases q : 400 < szS t
  · generalize szS t = Z at q ⊢
    have q1 : 400 < (Z : Int) := by omega
    go_wp2_with (first | (go_at_call 8; fail))
    go_at_call 8
    refine (HAW.out w2 HB2.out).mono ?_
    rintro e w3 ⟨rfl, hb3⟩
    have HB3 := Lib.hid (HB2.out.trans (below_le hb3 HB2.out.size))
    clear hb3
    go_wp2
    go_ret
    exact ⟨rfl, HB3.out⟩
  · have h400 : szS t ≤ 400 := by omega
    replace HTO := Lib.hid (HTO.out h400)
    replace HRO := Lib.hid (HRO.out h400)
    replace HNA := Lib.hid (HNA.out h400)
    replace HRN := Lib.hid (HRN.out h400)
    replace HDE := Lib.hid (HDE.out h400)
    replace HRD := Lib.hid (HRD.out h400)
    replace HPR := Lib.hid (HPR.out h400)
    replace HRP := Lib.hid (HRP.out h400)
    generalize szS t = Z at q h400 ⊢
    have q1 : ¬ 400 < (Z : Int) := by omega
    go_wp2_with (first | (go_at_call 12; fail))
    go_at_call 12
    refine (HFW.out w2 (HBV.out.below HB2.out)).mono ?_
    rintro e w3 ⟨u, rfl, hu, hb3⟩
    obtain ⟨ux, un, uc, rfl⟩ := hu.agg
    have HU := Lib.hid hu
    have HB3 := Lib.hid (HB2.out.trans (below_le hb3 HB2.out.size))
    have HNB3 := Lib.hid (HNB2.out.below hb3)
    have hl3 := HNB3.out.lt
    obtain ⟨p0, p1, p2, p3, _⟩ := HNB3.out.cells
    clear hu hb3 HFW HB2 HNB2 HBV
    go_wp2_with (first | (go_at_call 13; fail))
    go_at_call 13
    refine (HTO.out _ w3 (HV.out.below HB3.out) HU.out).mono ?_
    rintro e w4 ⟨rfl, hb4⟩
    have HB4 := Lib.hid (HB3.out.trans (below_le hb4 HB3.out.size))
    have HNB4 := Lib.hid (HNB3.out.below hb4)
    have HU4 := Lib.hid (HU.out.below hb4)
    clear hb4 HB3 HNB3 HU hl3 p0 p1 p2 p3
    have hl3 := HNB4.out.lt
    obtain ⟨p0, p1, p2, p3, _⟩ := HNB4.out.cells
    go_wp2_with (first | (go_at_call 14; fail))
    go_at_call 14
    refine (HRO.out _ w4 (HV.out.below HB4.out) HU4.out).mono ?_
    rintro e w5 ⟨rfl, hb5⟩
    have HB5 := Lib.hid (HB4.out.trans (below_le hb5 HB4.out.size))
    have HNB5 := Lib.hid (HNB4.out.below hb5)
    clear hb5 HB4 HNB4 HU4 hl3 p0 p1 p2 p3 HTO HRO
    have hl3 := HNB5.out.lt
    have HSS : Hid (∀ W, Below w5.heap.size w5 W → Below w5.heap.size w5 W ∧ W.cell? ⟨w.heap.size, 0, none⟩ = some (.string o) ∧ W.cell? ⟨w.heap.size, 1, none⟩ = some (.float .f64 n) ∧ W.cell? ⟨w.heap.size, 2, none⟩ = some (.string s) ∧ W.cell? ⟨w.heap.size, 3, none⟩ = some (.slice x k c)) := Lib.hid (fun W hW => by
      obtain ⟨a0, a1, a2, a3, _⟩ := (HNB5.out.below hW).cells
      exact ⟨hW, a0, a1, a2, a3⟩)
    have HBL := Lib.hid (fun W (h : Below w5.heap.size w5 W) => HB5.out.trans (below_le h HB5.out.size))
    obtain ⟨_, p0, p1, p2, p3⟩ := HSS.out w5 (Below.refl _ _)
    have bp : ((tx PR).toList == (tx PR).toList) = true := by simp
    go_wp2_with fail
    go_region_held3 (fun W => Below w5.heap.size w5 W ∧ W.cell? ⟨w.heap.size, 0, none⟩ = some (.string o) ∧ W.cell? ⟨w.heap.size, 1, none⟩ = some (.float .f64 n) ∧ W.cell? ⟨w.heap.size, 2, none⟩ = some (.string s) ∧ W.cell? ⟨w.heap.size, 3, none⟩ = some (.slice x k c))
      (first | exact HSS.out _ (Below.refl _ _).drew | exact HSS.out _ HB18.out | exact HSS.out _ HB17.out | exact HSS.out _ HB16.out | exact HSS.out _ HB15.out | exact HSS.out _ HB14.out | exact HSS.out _ HB13.out | exact HSS.out _ HB12.out | exact HSS.out _ HB11.out)
      (first
        | (go_at_call 16; (with_reducible refine (HNA.out _ (HBL.out _ (Below.refl _ _).drew)).mono ?_); rintro e y1 ⟨u1, rfl, hu1, hb1⟩; obtain ⟨ax, ac, rfl, _⟩ := hu1.old; have HT1 := Lib.hid hu1; have HB11 := Lib.hid ((Below.refl w5.heap.size w5).drew.trans hb1 : Below w5.heap.size w5 y1); clear hu1 hb1)
        | (go_at_call 17; (with_reducible refine (HRN.out _ (HBL.out _ HB11.out)).mono ?_); rintro e y2 ⟨u2, rfl, hu2, hb2⟩; obtain ⟨cx, cc, rfl, _⟩ := hu2.old; have HT2 := Lib.hid hu2; have HT1b := Lib.hid (HT1.out.below hb2); have HB12 := Lib.hid (HB11.out.trans (below_le hb2 HB11.out.size) : Below w5.heap.size w5 y2); clear hu2 hb2)
        | (go_at_call 15; (with_reducible refine (HSA.out _ _ _ HT1b.out HT2.out).mono ?_); rintro e y3 ⟨rfl, hb3⟩; have HB13 := Lib.hid (HB12.out.trans (below_le hb3 HB12.out.size) : Below w5.heap.size w5 y3); clear hb3)
        | (go_at_call 18; (with_reducible refine (HDE.out _ (HBL.out _ HB13.out)).mono ?_); rintro e y4 ⟨rfl, hb4⟩; have HB14 := Lib.hid (HB13.out.trans (below_le hb4 HB13.out.size) : Below w5.heap.size w5 y4); clear hb4)
        | (go_at_call 19; (with_reducible refine (HRD.out _ (HBL.out _ HB14.out)).mono ?_); rintro e y5 ⟨rfl, hb5⟩; have HB15 := Lib.hid (HB14.out.trans (below_le hb5 HB14.out.size) : Below w5.heap.size w5 y5); clear hb5)
        | (go_at_call 9; (with_reducible refine (HPR.out _ (HBL.out _ HB15.out)).mono ?_); rintro e y6 ⟨rfl, hb6⟩; have HB16 := Lib.hid (HB15.out.trans (below_le hb6 HB15.out.size) : Below w5.heap.size w5 y6); clear hb6)
        | (go_at_call 20; (with_reducible refine (HRP.out _ (HBL.out _ HB16.out)).mono ?_); rintro e y7 ⟨rfl, hb7⟩; have HB17 := Lib.hid (HB16.out.trans (below_le hb7 HB16.out.size) : Below w5.heap.size w5 y7); clear hb7)
        | (go_at_call 8; (with_reducible refine (HAW.out _ (HBL.out _ HB17.out)).mono ?_); rintro e y8 ⟨rfl, hb8⟩; have HB18 := Lib.hid (HB17.out.trans (below_le hb8 HB17.out.size) : Below w5.heap.size w5 y8); clear hb8))
    go_wp2
    go_ret
    exact ⟨rfl, HBL.out _ HB18.out⟩
end Go.Proofs.YtfalcmbjjlgoaaaGreatDoor
/- The numbers of a tree fit. Plain. -/
namespace Go.Proofs.YtfalcmbjjlgoaaaGreatDoor
mutual
def nbT : Tree → Prop
  | .mk _ n _ l => n < 2 ^ 64 ∧ nbL l
def nbL : List Tree → Prop
  | [] => True
  | t :: r => nbT t ∧ nbL r
end
end Go.Proofs.YtfalcmbjjlgoaaaGreatDoor
