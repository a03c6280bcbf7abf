/- Own texts, merged: YF. -/
import Derived.Lib.SlBytesConst
import Derived.Test.YtdomglkcfecnnaaGreatMP41
import Derived.Test.YtdomglkcfecnnaaGreatMP46
/- Walk: the page's example. -/
namespace Go.Proofs.YtdomglkcfecnnaaGreat
open Go Go.RowKit Go.Shelf
attribute [local go_sem] run_store_float
def awk : List UInt8 := sumS [97]
theorem awk_eq : (⟨(awk).toArray⟩ : ByteArray) = ⟨#[0, 98, 0, 98]⟩ := by decide +kernel
theorem exCheck2 (q : Nat) (W : World) (h : FLB W q exBL) : Calls Tryz.prog 19 #[.agg (exDa q)] W fun e w' => e = .returned (.tuple #[.int .i64 (-1), .int .i64 0]) ∧ Below W.heap.size W w' := exCheck h
/-- The world ahead of awake's Encode. -/
def awW (w : World) : World := ((w.alloc (.cells exBL.a 66)).alloc (.cells (exDa w.heap.size) 27)).alloc (.cells exVa 62)
theorem awW_ok (w : World) : FLB (awW w) w.heap.size exBL ∧ (awW w).heap[w.heap.size + 1]? = some (.cells (exDa w.heap.size) 27 (0, 0)) ∧ (awW w).heap[w.heap.size + 2]? = some (.cells exVa 62 (0, 0)) ∧ Below w.heap.size w (awW w) ∧ (awW w).heap.size = w.heap.size + 3 := by
  refine ⟨?_, ?_, ?_, ?_, by simp [awW]⟩
  · exact (heap_alloc_old _ _ (by simp; omega)).trans ((heap_alloc_old _ _ (by simp)).trans (heap_alloc_new _ _))
  · exact (heap_alloc_old _ _ (by simp)).trans (alloc_new1 w _ _)
  · exact alloc_new2 w _ _ _
  · exact (((Below.refl _ _).alloc (Nat.le_refl _) _).alloc (by simp) _).alloc (by simp; omega) _
set_option maxRecDepth 100000 in
set_option maxHeartbeats 8000000 in
theorem wawakeS (w : World) : Calls Tryz.prog 10 #[] w fun e w' => e = .returned (.bool true) ∧ Below w.heap.size w w' := by
  have HK := Lib.hid (awW_ok w)
  have HEN : Hid (∀ W, FLB W w.heap.size exBL → W.heap[w.heap.size + 2]? = some (.cells exVa 62 (0, 0)) → Calls Tryz.prog 16 #[.agg (exDa w.heap.size), .slice (some ⟨w.heap.size + 2, 0, none⟩) 1 1] W fun e w' => ∃ g c, e = .returned (.tuple #[.slice (some ⟨g, 0, none⟩) 10 c, .int .i64 0]) ∧
      Hid (w'.ownsRow W.heap.size 5 1 (.slice (some ⟨g, 0, none⟩) 10 c) 10 (([1, 5, 1, 97, 1, 1] ++ sumS [1, 5, 1, 97, 1, 1]).map u8V) ∧ Below W.heap.size W w')) := Lib.hid (fun W h1 h2 => exEncode w.heap.size (w.heap.size + 2) W (fun W h => exCheck2 w.heap.size W h) h1 h2)
  have HDE : Hid (∀ W g c, FLB W w.heap.size exBL → g < W.heap.size → 10 ≤ c → c ≤ 9223372036854775807 → (∀ i, i < 10 → W.cell? ⟨g, i, none⟩ = some (.int .u8 ((ex10.getD i 0).toNat : Nat))) → Calls Tryz.prog 11 #[.agg (exDa w.heap.size), .slice (some ⟨g, 0, none⟩) 10 c] W fun e w' => ∃ h cp, e = .returned (.tuple #[.slice (some ⟨h, 0, none⟩) 1 cp, .int .i64 0]) ∧ Hid (w'.cell? ⟨h, 2, none⟩ = some (.bool true) ∧ h < w'.heap.size ∧ Below W.heap.size W w')) :=
    Lib.hid (fun W g c h1 h2 h3 h4 h5 => exDecode w.heap.size g c W (fun W h => exCheck2 w.heap.size W h) h1 h2 h3 h4 h5)
  unfold awW at HK
  unfold exBL Fld.fl exB FL.a exVa exDa at HK
  unfold exVa exDa at HEN
  unfold exDa at HDE
  dsimp only [List.length_nil] at HK
  rw [show tx [97] = (⟨#[97]⟩ : ByteArray) from rfl, show tx [65] = (⟨#[65]⟩ : ByteArray) from rfl, show tx [] = (⟨#[]⟩ : ByteArray) from rfl] at HK
  go_enter Tryz.func10, Tryz.ntmps10
  go_wp2_with (first | (go_at_call 16; fail))
  go_at_call 16
  refine (HEN.out _ HK.out.1 HK.out.2.2.1).mono ?_
  rintro e w1 ⟨g, c, rfl, HR1⟩
  have HF1 : Hid (FLB w1 w.heap.size exBL) := Lib.hid (HK.out.1.below HR1.out.2)
  have hd1 : w1.heap[w.heap.size + 1]? = some (.cells (exDa w.heap.size) 27 (0, 0)) := (HR1.out.2.block _ (Array.getElem?_eq_some_iff.1 HK.out.2.1).1).trans HK.out.2.1
  have HB1 : Hid (Below w.heap.size w w1) := Lib.hid (HK.out.2.2.2.1.trans (below_le HR1.out.2 HK.out.2.2.2.1.size))
  obtain ⟨d0, d1, d2, d3⟩ : w1.cell? ⟨w.heap.size + 1, 0, none⟩ = some (.string ⟨#[]⟩) ∧ w1.cell? ⟨w.heap.size + 1, 1, none⟩ = some (.slice (some ⟨w.heap.size, 0, none⟩) 1 1) ∧ w1.cell? ⟨w.heap.size + 1, 2, none⟩ = some (.slice none 0 0) ∧ w1.cell? ⟨w.heap.size + 1, 3, none⟩ = some (.int .i64 1) := by
    simp [World.cell?, hd1, exDa]
  have HGC : Hid (g < w1.heap.size ∧ 10 ≤ c ∧ c ≤ 9223372036854775807 ∧ ∀ i, i < 10 → w1.cell? ⟨g, i, none⟩ = some (.int .u8 ((ex10.getD i 0).toNat : Nat))) := Lib.hid (by
    have ho := HR1.out.1
    refine ⟨(ho.lt g rfl).2, ?_, ?_, fun i hi => ?_⟩
    · rcases ho.2 with ⟨hv, _⟩ | ⟨_, cap, cur, hv, _, _, h1, h2, _⟩
      · cases hv
      · cases hv; exact h1
    · rcases ho.2 with ⟨hv, _⟩ | ⟨_, cap, cur, hv, _, _, h1, h2, _⟩
      · cases hv
      · cases hv; simpa [maxLen] using h2
    · rw [ho.cellAt i (by omega), List.getElem?_map]
      have hl : ex10.length = 10 := by simp [ex10, sumS_len]
      show (ex10[i]?).map u8V = _
      rw [List.getElem?_eq_getElem (by omega), List.getD_eq_getElem?_getD, List.getElem?_eq_getElem (by omega)]
      rfl)
  have hc10 : (6 : Int) ≤ (c : Int) := by have := HGC.out; omega
  clear hd1 HK HEN HR1
  go_wp2_with (first | (go_at_call 11; fail))
  go_at_call 11
  refine (HDE.out _ g c HF1.out HGC.out.1 HGC.out.2.1 HGC.out.2.2.1 HGC.out.2.2.2).mono ?_
  rintro e w2 ⟨h, cp, rfl, HR2⟩
  have hcv : (convert 37 9 (.slice (some ⟨g, 0, none⟩) 6 c)).run Tryz.prog w2 = .ok (.string ⟨#[1, 5, 1, 97, 1, 1]⟩) w2 :=
    run_convert_bytes_back w2 37 9 5 ⟨g, 0, none⟩ c [1, 5, 1, 97, 1, 1] Tryz.underlying37 Tryz.underlying5 Tryz.underlying9 (fun j hj => by
      have hj6 : j < 6 := hj
      have h1 := (HR2.out.2.2.cell (p := ⟨g, j, none⟩) HGC.out.1).trans (HGC.out.2.2.2 j (by omega))
      rw [ex10_six j hj6, show ex6.getD j 0 = ([1, 5, 1, 97, 1, 1] : List UInt8)[j] from by simp [ex6, hj6]] at h1
      rw [Go.WideShapes.add_plain, Nat.zero_add]
      exact h1)
  have k2 := HR2.out.1
  have HB2 := Lib.hid (HB1.out.trans (below_le HR2.out.2.2 HB1.out.size))
  have hcc := Lib.run_convert_bytes_const (P := Tryz.prog) w2 37 5 #[.int .u8 97] 1 1 Tryz.underlying37 Tryz.underlying5
  have HW3 : Hid (BV (w2.alloc (.cells #[.int .u8 97] 5 (1, 1 + 1))) (some ⟨w2.heap.size, 0, none⟩) [97] ∧ Below w2.heap.size w2 (w2.alloc (.cells #[.int .u8 97] 5 (1, 1 + 1)))) := Lib.hid ⟨fun _ => ⟨w2.heap.size, 0, rfl, by simp, fun i hi => by
    obtain rfl : i = 0 := by simp at hi; omega
    simp only [World.cell?, heap_alloc_new]
    rfl⟩, (Below.refl _ _).alloc (Nat.le_refl _) _⟩
  simp only [List.size_toArray, List.length_cons, List.length_nil, Nat.zero_add] at hcc
  clear d0 d1 d2 d3 HDE HF1
  go_wp2_with (first | (go_at_call 18; fail))
  go_at_call 18
  refine (wSum (some ⟨w2.heap.size, 0, none⟩) [97] 1 _ HW3.out.1 (by simp)).mono ?_
  rintro e w4 ⟨rfl, hw4⟩
  have hcv4 : (convert 37 9 (.slice (some ⟨(w2.alloc (.cells #[.int .u8 97] 5 (1, 1 + 1))).heap.size, 0, none⟩) 4 4)).run Tryz.prog w4 = .ok (.string ⟨#[0, 98, 0, 98]⟩) w4 := by
    rw [← awk_eq]
    refine run_convert_bytes_back w4 37 9 5 ⟨(w2.alloc (.cells #[.int .u8 97] 5 (1, 1 + 1))).heap.size, 0, none⟩ 4 awk Tryz.underlying37 Tryz.underlying5 Tryz.underlying9 (fun j hj => ?_)
    rw [Go.WideShapes.add_plain, Nat.zero_add, hw4]
    simp only [World.cell?, heap_alloc_new]
    have hj4 : j < (sumS [97]).length := hj
    simp [hj4, u8V, awk]
  have HB4 : Hid (Below w.heap.size w w4) := Lib.hid ((HB2.out.trans (below_le HW3.out.2 HB2.out.size)).trans (by rw [hw4]; exact below_le ((Below.refl _ _).alloc (Nat.le_refl _) _) (Nat.le_trans HB2.out.size HW3.out.2.size)))
  clear hw4 hcv hcc k2
  simp only [World.size_alloc] at hcv4 ⊢
  go_wp2_with fail
  go_ret
  exact ⟨rfl, HB4.out⟩
end Go.Proofs.YtdomglkcfecnnaaGreat
