/- Walks: the page's examples, cut. -/
import Derived.Test.YtdehjofmangmbaaFQ
namespace Go.Proofs.Ytdehjofmangmbaa
open Go.RowKit Go.Shelf
def exO : List Bs := [[116, 114, 101, 101], [109, 111, 114, 101, 32, 114, 101, 100], [82, 101, 100], [114, 97, 116, 101]]
set_option maxRecDepth 100000 in
theorem ex_sieve : sieT [114, 101] exO = [2, 1, 0, 3] := by kernel_rfl
set_option maxRecDepth 100000 in
theorem ex_marks : mksS [116, 114, 101, 101] [116, 101] = [0, 2] := by kernel_rfl
set_option maxRecDepth 100000 in
theorem ex_fold : foldS [65, 98] = [97, 98] := by kernel_rfl
theorem exO_row {w : World} {g : Nat} (h : w.heap[g]? = some (.cells #[.string ⟨#[116, 114, 101, 101]⟩, .string ⟨#[109, 111, 114, 101, 32, 114, 101, 100]⟩, .string ⟨#[82, 101, 100]⟩, .string ⟨#[114, 97, 116, 101]⟩] 9 (0, 0))) : TxV w (.slice (some ⟨g, 0, none⟩) 4 4) exO := by
  refine ⟨by decide, .inr ⟨g, 0, 4, rfl, by decide, (Array.getElem?_eq_some_iff.1 h).1, fun i hi => ?_⟩⟩
  match i, hi with
  | 0, _ => simp [World.cell?, h]; rfl
  | 1, _ => simp [World.cell?, h]; rfl
  | 2, _ => simp [World.cell?, h]; rfl
  | 3, _ => simp [World.cell?, h]; rfl
  | n + 4, hi => exact absurd hi (by simp [exO])
set_option maxRecDepth 100000 in
set_option maxHeartbeats 4000000 in
theorem wawake (w : World) : Calls Try.prog 8 #[] w fun e w' => e = .returned (.bool true) ∧ Below w.heap.size w w' := by
  have HS : Hid (∀ W v, TxV W v exO → Calls Try.prog 7 #[.string ⟨#[114, 101]⟩, v] W (SvEnd [2, 1, 0, 3] W)) := Lib.hid (fun W v h => by
    have := wsieve [114, 101] v exO (by decide) (by decide) W h
    rw [ex_sieve] at this
    exact this)
  have HM : Hid (∀ W, Calls Try.prog 14 #[.string ⟨#[116, 114, 101, 101]⟩, .string ⟨#[116, 101]⟩] W fun e w' => ∃ v, e = .returned v ∧ IntV w' v [0, 2] ∧ Below W.heap.size W w') := Lib.hid (fun W => by
    have := wmarksF [116, 114, 101, 101] [116, 101] (by decide) (by decide) W
    unfold MkEnd at this
    rw [ex_marks] at this
    exact this)
  have HF : Hid (∀ W, Calls Try.prog 15 #[.string ⟨#[65, 98]⟩] W fun e w' => e = .returned (.string ⟨#[97, 98]⟩) ∧ Below W.heap.size W w') := Lib.hid (fun W => by
    have := wfold [65, 98] (by decide) W
    rw [ex_fold] at this
    exact this)
  unfold SvEnd at HS
  have HB1 : Hid (Below w.heap.size w (w.alloc (.cells #[.string ⟨#[116, 114, 101, 101]⟩, .string ⟨#[109, 111, 114, 101, 32, 114, 101, 100]⟩, .string ⟨#[82, 101, 100]⟩, .string ⟨#[114, 97, 116, 101]⟩] 9))) := Lib.hid ((Below.refl _ _).alloc (Nat.le_refl _) _)
  have HX : Hid (TxV (w.alloc (.cells #[.string ⟨#[116, 114, 101, 101]⟩, .string ⟨#[109, 111, 114, 101, 32, 114, 101, 100]⟩, .string ⟨#[82, 101, 100]⟩, .string ⟨#[114, 97, 116, 101]⟩] 9)) (.slice (some ⟨w.heap.size, 0, none⟩) 4 4) exO) := Lib.hid (exO_row (heap_alloc_new _ _))
  go_enter Try.func8, Try.ntmps8
  go_wp2_with (first | (go_at_call 7; fail))
  generalize (w.alloc (.cells #[.string ⟨#[116, 114, 101, 101]⟩, .string ⟨#[109, 111, 114, 101, 32, 114, 101, 100]⟩, .string ⟨#[82, 101, 100]⟩, .string ⟨#[114, 97, 116, 101]⟩] 9)) = W0 at HB1 HX ⊢
  refine (HS.out W0 _ HX.out).mono ?_
  rintro e w2 ⟨v2, rfl, hv2, hb2⟩
  have HB2 := Lib.hid (HB1.out.trans (below_le hb2 HB1.out.size))
  obtain ⟨x2, c2, rfl⟩ := hv2.is
  obtain ⟨_, g, rfl, hg, hc2, hget⟩ := hv2.get 0 (by decide)
  have HC2 : Hid (4 ≤ c2 ∧ g < w2.heap.size ∧ w2.cell? ⟨g, 0, none⟩ = some (.int .i64 2) ∧ w2.cell? ⟨g, 1, none⟩ = some (.int .i64 1) ∧ w2.cell? ⟨g, 2, none⟩ = some (.int .i64 0) ∧ w2.cell? ⟨g, 3, none⟩ = some (.int .i64 3)) := Lib.hid ⟨hc2, hg, hget 0 (by decide), hget 1 (by decide), hget 2 (by decide), hget 3 (by decide)⟩
  clear hv2 hb2 hget hg hc2 HX HB1
  go_wp2_with (first | (go_at_call 14; fail))
  refine (HM.out w2).mono ?_
  rintro e w3 ⟨v3, rfl, hv3, hb3⟩
  have HB3 := Lib.hid (HB2.out.trans (below_le hb3 HB2.out.size))
  obtain ⟨hc2, hg, k0, k1, k2, k3⟩ := HC2.out
  have j0 := (hb3.cell (p := ⟨g, 0, none⟩) hg).trans k0
  have j1 := (hb3.cell (p := ⟨g, 1, none⟩) hg).trans k1
  have j2 := (hb3.cell (p := ⟨g, 2, none⟩) hg).trans k2
  have j3 := (hb3.cell (p := ⟨g, 3, none⟩) hg).trans k3
  obtain ⟨x3, c3, rfl, hc3, h3⟩ := hv3
  obtain ⟨g3, rfl, hg3, hget3⟩ := h3 (by simp)
  have m0 : w3.cell? ⟨g3, 0, none⟩ = some (.int .i64 0) := hget3 0 (by decide)
  have m1 : w3.cell? ⟨g3, 1, none⟩ = some (.int .i64 2) := hget3 1 (by decide)
  have hc3' : 2 ≤ c3 := hc3
  have e2 : ([0, 2] : List Nat).length = 2 := rfl
  rw [e2]
  clear h3 hget3 hb3 k0 k1 k2 k3 HC2 hc3 e2
  go_wp2_with (first | (go_at_call 15; fail))
  refine (HF.out w3).mono ?_
  rintro e w4 ⟨rfl, hb4⟩
  have HB4 := Lib.hid (HB3.out.trans (below_le hb4 HB3.out.size))
  clear hb4
  go_wp2
  go_ret
  exact ⟨rfl, HB4.out⟩
theorem tx_take (l : Bs) (n : Nat) : (tx l).extract 0 n = tx (l.take n) := by
  unfold tx
  apply ByteArray.ext
  apply Array.ext'
  simp [ByteArray.extract, ByteArray.copySlice]
theorem lcut (a : Bs) (w : World) : Calls Try.prog 4 #[.string (tx a)] w fun e w' => e = .returned (.string (tx (a.take 60))) ∧ w = w' := by
  have hs : (tx a).size = a.length := by simp [tx, ByteArray.size]
  by_cases h : 60 < a.length
  · have hx := tx_take a 60
    have i1 : (60 : Int) < ((tx a).size : Int) := by omega
    generalize tx (a.take 60) = U at hx ⊢
    generalize tx a = T at hs hx i1 ⊢
    have hT : 60 ≤ T.size := by omega
    go_enter Try.func4, Try.ntmps4
    go_wp2
    go_ret
    exact ⟨by first | rw [hx] | rfl, rfl⟩
  · have hx : a.take 60 = a := List.take_of_length_le (by omega)
    rw [hx]
    have i1 : ¬ (60 : Int) < ((tx a).size : Int) := by omega
    generalize tx a = T at hs i1 ⊢
    go_enter Try.func4, Try.ntmps4
    go_wp2
    go_ret
    exact ⟨rfl, rfl⟩
end Go.Proofs.Ytdehjofmangmbaa
