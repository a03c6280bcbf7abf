/- Walks: made, New, the act of a word, Usual. -/
import Derived.Test.YthkcfdnenbboaaaK15
import Derived.Deep.RegionHeld3
namespace Go.Proofs.Ythkcfdnenbboaaa
open Go.RowKit Go.Shelf Go.Maps
theorem wmade (w : World) (b mb : Nat) (hc : w.cell? ⟨b, 0, none⟩ = some (.map (some mb))) : Calls Try.prog 36 #[.pointer (some ⟨b, 0, none⟩)] w fun e w' => e = .returned (.bool true) ∧ w = w' := by
  have hm := fun w' : World => run_neq_map_nil (P := Try.prog) w' 66 9 30 (some mb) Try.underlying66
  go_enter Try.func36, Try.ntmps36; go_wp2; go_ret; exact ⟨rfl, rfl⟩
/-- What a pointer leads to that is no map of New's: nothing, or a map that is none. -/
def Nobody (w : World) (p : Option Addr) : Prop := p = none ∨ ∃ b, p = some ⟨b, 0, none⟩ ∧ b < w.heap.size ∧ w.cell? ⟨b, 0, none⟩ = some (.map none)
theorem Nobody.mono {w w' : World} {p : Option Addr} (h : Nobody w p) (hw : Below w.heap.size w w') : Nobody w' p := by
  rcases h with rfl | ⟨b, rfl, hb, hc⟩
  · exact .inl rfl
  · exact .inr ⟨b, rfl, by have := hw.size; omega, (hw.cell (p := ⟨b, 0, none⟩) hb).trans hc⟩
theorem wmade_no (w : World) (p : Option Addr) (h : Nobody w p) : Calls Try.prog 36 #[.pointer p] w fun e w' => e = .returned (.bool false) ∧ w = w' := by
  rcases h with rfl | ⟨b, rfl, hb, hc⟩
  · go_enter Try.func36, Try.ntmps36; go_wp2; go_ret; exact ⟨rfl, rfl⟩
  · have hm := fun w' : World => run_neq_map_nil (P := Try.prog) w' 66 9 30 none Try.underlying66
    go_enter Try.func36, Try.ntmps36; go_wp2; go_ret; exact ⟨rfl, rfl⟩
def noBnd : Bnd := fun _ => none
theorem new_at (w : World) : MapI ((w.alloc (.map #[] 0)).alloc (.cells #[.map (some w.heap.size)] 68)) (w.heap.size + 1) w.heap.size 0 0 noBnd := by
  refine ⟨?_, (MapF.made w).block (heap_alloc_old _ _ (by simp))⟩
  have := heap_alloc_new (w.alloc (.map #[] 0)) (.cells #[.map (some w.heap.size)] 68)
  simpa using this
theorem wnew (w : World) : Calls Try.prog 7 #[] w fun e w' => e = .returned (.pointer (some ⟨w.heap.size + 1, 0, none⟩)) ∧ MapI w' (w.heap.size + 1) w.heap.size 0 0 noBnd ∧ Below w.heap.size w w' := by
  have hmm := @run_makeMap Try.prog
  go_enter Try.func7, Try.ntmps7
  go_wp2
  go_ret
  exact ⟨rfl, new_at w, ((Below.refl _ _).alloc (Nat.le_refl _) _).alloc (by simp) _⟩
/-- The act of a word; 0: none. -/
def actOf (s : ByteArray) : Int := Lib.idxOfS wordsL s + 1
set_option maxHeartbeats 400000 in
theorem wact (s : ByteArray) (w : World) : Calls Try.prog 21 #[.string s] w fun e w' => e = .returned (.tuple #[.int .i64 (actOf s), .bool (decide (0 ≤ Lib.idxOfS wordsL s))]) ∧ Below w.heap.size w w' := by
  go_enter Try.func21, Try.ntmps21
  go_wp2_with (first | (go_at_call 53; fail))
  go_at_call 53
  refine (wwords _).mono ?_
  rintro e w1 hm
  have HB1 := Lib.hid hm.below
  have hc := hm.cell
  have he := hm.1
  clear hm
  subst he
  have HI := Lib.hid (Try.slices_Index_string w.heap.size 0 19 19 wordsL s w1 (by decide) (by omega) (fun j hj => by rw [Nat.zero_add, hc j, getD_getElem hj ByteArray.empty]; rfl))
  clear hc
  have hl : wordsL.length = 19 := rfl
  rw [hl]
  go_wp2_with (first | (go_at_call 52; fail))
  go_at_call 52
  refine HI.out.mono ?_
  rintro e w2 ⟨rfl, rfl⟩
  have hi1 := (idx_bd (wordsL.take 19) s).1
  have hi2 : Lib.idxOfS (wordsL.take 19) s ≤ 19 := (idx_bd (wordsL.take 19) s).2
  go_wp2
  all_goals (
    go_ret2
    refine ⟨?_, HB1.out⟩
    show _ = Ending.returned (.tuple #[.int .i64 (Lib.idxOfS (wordsL.take 19) s + 1), .bool (decide (0 ≤ Lib.idxOfS (wordsL.take 19) s))])
    rfl)
/-- The usual map: the first k pairs. -/
def usualF : Nat → Bnd
  | 0 => noBnd
  | k + 1 => (usualF k).put (nthS usualL (2 * k + 1)) (actOf (nthS usualL (2 * k + 2)))
def usualC : Nat → Nat
  | 0 => 0
  | k + 1 => if (usualF k).has (nthS usualL (2 * k + 1)) then usualC k else usualC k + 1
theorem usual_size : ∀ k : Nat, k < 64 → (nthS usualL ((k : Int) + 1)).size ≤ 100 := by decide +kernel
theorem actOf_bd (s : ByteArray) : 0 ≤ actOf s ∧ actOf s ≤ 100 := by
  have := idx_bd wordsL s
  have hl : wordsL.length = 19 := rfl
  unfold actOf
  omega
set_option maxRecDepth 100000 in
set_option maxHeartbeats 4000000 in
theorem wusualM (w : World) : Calls Try.prog 19 #[] w fun e w' => e = .returned (.pointer (some ⟨w.heap.size + 1, 0, none⟩)) ∧ MapI w' (w.heap.size + 1) w.heap.size 32 (usualC 32) (usualF 32) ∧ Below w.heap.size w w' := by
  go_enter Try.func19, Try.ntmps19
  go_wp2_with (first | (go_at_call 7; fail))
  go_at_call 7
  refine (wnew _).mono ?_
  rintro e w1 ⟨rfl, hM, hB⟩
  have HM1 := Lib.hid hM
  have HB1 := Lib.hid hB
  have hz1 : w.heap.size + 1 < w1.heap.size := hM.get.2.1
  clear hM hB
  go_wp2_with (first | (go_at_call 49; fail))
  go_at_call 49
  refine (wusual _).mono ?_
  rintro e w2 hm
  have HM2 := Lib.hid (HM1.out.below hm.below)
  have HB2 := Lib.hid (HB1.out.trans (below_le hm.below (by omega)))
  have HC := Lib.hid hm.cells
  have hz2 : w1.heap.size < w2.heap.size := by rw [hm.2]; simp
  have he := hm.1
  clear hm
  subst he
  have hl : usualL.length = 64 := rfl
  rw [hl]
  obtain ⟨g, hg⟩ : ∃ g, g = w1.heap.size := ⟨_, rfl⟩
  have HG := Lib.hid (show w.heap.size + 1 < g ∧ g < w2.heap.size by omega)
  rw [← hg] at HC ⊢
  clear hg hz1 hz2 hl
  go_wp2_with fail
  go_loopg [3] 32 (fun n i wr => ∃ k : Nat, k + n = 32 ∧ i = .int .i64 ((2 * k : Nat) : Int) ∧ Hid (MapI wr (w.heap.size + 1) w.heap.size k (usualC k) (usualF k) ∧ But [w.heap.size] w2 wr))
  case atStart => exact ⟨0, rfl, rfl, Lib.hid ⟨HM2.out, But.refl _ _⟩⟩
  case round =>
    obtain ⟨k, hk, rfl, HR⟩ := hrel
    by_cases hlt : k < 32
    · have hcell : ∀ i, i < 64 → wr.cell? ⟨g, i, none⟩ = some (.string (nthS usualL ((i : Int) + 1))) := fun i hi => (World.cell?_of_block (HR.out.2.block g HG.out.2 (by have := HG.out.1; simp; omega))).trans (HC.out i hi)
      have hc1 := hcell (2 * k + 1) (by omega)
      have HC0 := Lib.hid (hcell (2 * k) (by omega))
      clear hcell
      have hcm := HR.out.1.get.1
      have HA := Lib.hid (fun W => wact (nthS usualL (((2 * k + 1 : Nat) : Int) + 1)) W)
      obtain ⟨z, hz⟩ : ∃ z, z = nthS usualL (((2 * k + 1 : Nat) : Int) + 1) := ⟨_, rfl⟩
      rw [← hz] at HA hc1
      have HZ := Lib.hid hz
      clear hz
      go_wp2_with (first | (go_at_call 21; fail))
      go_at_call 21
      refine (HA.out _).mono ?_
      rintro e w3 ⟨rfl, hb⟩
      have hB3 : But [w.heap.size] w2 w3 := HR.out.2.below hb
      have hM3 := HR.out.1.below hb
      have hc0 : w3.cell? ⟨g, 2 * k, none⟩ = some (.string (nthS usualL (((2 * k : Nat) : Int) + 1))) := (World.cell?_of_block (hb.block g (by have := HG.out.2; have := HR.out.2.size; omega))).trans HC0.out
      have hcm3 := hM3.get.1
      obtain ⟨y, hy⟩ : ∃ y, y = nthS usualL (((2 * k : Nat) : Int) + 1) := ⟨_, rfl⟩
      rw [← hy] at hc0
      have hys : y.size ≤ maxLen := by rw [hy]; have := usual_size (2 * k) (by omega); unfold maxLen; omega
      obtain ⟨w4, hrun, hM4, hg4⟩ := (hM3.map.block (w' := w3.drew) rfl).put (by unfold maxLen; omega) y hys (actOf z) (actOf_bd z)
      have HT := Lib.hid ((hM3.keep (w' := w3.drew) ((But.refl [] w3).drew) List.not_mem_nil List.not_mem_nil).turned hM4 hg4)
      have HB3 := Lib.hid hB3
      have HY := Lib.hid hy
      clear hM3 hM4 hg4 hy hys hb hcm hc1 hB3
      go_wp2_with fail
      go_region
      go_wp2_with fail
      go_roundg (gk - 1)
      case measure => omega
      case rel =>
        have e1 : y = nthS usualL (2 * (k : Int) + 1) := by rw [HY.out]; congr 1
        have e2 : z = nthS usualL (2 * (k : Int) + 2) := by rw [HZ.out]; congr 1
        refine ⟨k + 1, by omega, by go_num, Lib.hid ⟨?_, (HB3.out.drew.trans (HT.out.2.sub (fun j hj _ => hj)))⟩⟩
        have h := HT.out.1
        rw [e1, e2] at h
        exact h
    · obtain rfl : k = 32 := by omega
      go_wp2
      go_ret
      exact ⟨rfl, HR.out.1, HB2.out.trans (HR.out.2.toBelow (by have := HG.out; omega) (by simp))⟩
end Go.Proofs.Ythkcfdnenbboaaa
