/- Walks: Keys, ActOf of the reference; same, texts. -/
import Derived.Test.YthkcfdnenbboaaaK35
namespace Go.Proofs.Ythkcfdnenbboaaa
open Go.RowKit Go.Shelf Go.Maps Go.Sort Go.ChangeMaps
def keysB (L : List Bd) (a : Int) : List ByteArray := (L.filter fun b => b.2 == a).map (·.1)
theorem keysB_snoc (L : List Bd) (a : Int) (k : Nat) (hk : k < L.length) : keysB (L.take (k + 1)) a = keysB (L.take k) a ++ (if (bn L k).2 = a then [(bn L k).1] else []) := by
  have e : bn L k = L[k] := by simp [bn, List.getD, hk]
  rw [List.take_succ_eq_append_getElem hk, e]
  unfold keysB
  rw [List.filter_append, List.map_append]
  congr 1
  by_cases h : L[k].2 = a <;> simp [h]
theorem keysB_len (L : List Bd) (a : Int) : (keysB L a).length ≤ L.length := by
  unfold keysB; rw [List.length_map]; exact List.length_filter_le _ _
def KeysREnd (L : List Bd) (a : Int) (w : World) (e : Ending) (w' : World) : Prop := ∃ x m cap, e = .returned (.slice x m cap) ∧ m ≤ cap ∧ SeesS w' x m (keysB L a) ∧ Below w.heap.size w w'
set_option maxRecDepth 100000 in
set_option maxHeartbeats 4000000 in
theorem wkeysR {w : World} {x : Option Addr} {n cap : Nat} {L : List Bd} (h : RowB w x n cap L) (hn : n ≤ 100000) (a : Int) : Calls Try.prog 35 #[.agg #[.slice x n cap], .int .i64 a] w (KeysREnd L a w) := by
  obtain ⟨i0, hi, hz0, hz1, hz2⟩ := info_parts Try.info9
  have HR := Lib.hid h
  have HL := Lib.hid h.1
  have hnc := h.2.1
  clear h
  go_enter Try.func35, Try.ntmps35
  go_wp2_with fail
  have hb0 := Lib.hid (Boxed.new w 44 (.slice x n cap))
  have HB0 := Lib.hid ((Below.refl w.heap.size w).alloc (Nat.le_refl _) (.cells #[.slice x n cap] 44))
  go_loopg [5, 6] n (fun gh v i wr => ∃ k : Nat, k + gh = n ∧ i = .int .i64 k ∧ wr.ownsRow (w.heap.size + 1) 9 1 v (keysB (L.take k) a).length ((keysB (L.take k) a).map .string) ∧ Hid (Boxed wr w.heap.size 44 (.slice x n cap)) ∧ Hid (Below w.heap.size w wr))
  case atStart => exact ⟨0, by omega, rfl, ⟨rfl, .inl ⟨rfl, rfl⟩⟩, hb0, HB0⟩
  case round =>
    clear hb0 HB0
    obtain ⟨k, hk, rfl, hown, HX, HB⟩ := hrel
    have cm := HX.out.cell
    have hbig : w.heap.size < wr.heap.size := HX.out.lt
    by_cases hlt : k < n
    · obtain ⟨g, rfl, hg, hc1, hc2⟩ := (HR.out.below HB.out).cells hlt
      have hsn := keysB_snoc L a k (by rw [← HL.out]; exact hlt)
      have hkl := keysB_len (L.take k) a
      rw [List.length_take] at hkl
      obtain ⟨vs, hvs⟩ : ∃ vs, vs = keysB (L.take k) a := ⟨_, rfl⟩
      rw [← hvs] at hown hsn hkl
      obtain ⟨z, hz⟩ : ∃ z, z = (bn L k).2 := ⟨_, rfl⟩
      rw [← hz] at hsn hc2
      obtain ⟨s, hs⟩ : ∃ s, s = (bn L k).1 := ⟨_, rfl⟩
      rw [← hs] at hsn hc1
      have hvl : vs.length ≤ 100000 := by omega
      clear hvs hz hs hkl
      by_cases ha : z = a
      · rw [if_pos ha] at hsn
        have HSN := Lib.hid hsn
        subst ha
        clear hsn
        go_wp2_with (first | (at_builtin; refine wpList_append_own _ rfl _ _ 62 rfl (w.heap.size + 1) 9 i0 (.string ⟨#[]⟩) 1 16 Try.underlying62 hi hz0 hz1 hz2 rfl (by decide) _ _ _ rfl (hown.alloc _) ⟨wr.heap.size, 0, none⟩ 1 1 [.string s] rfl rfl (cell_one_new _ _ _) (by simp [Value.oneCell']) (by unfold maxLen; omega) (by omega) (by simp; omega) ?_; intro v' w3 hown' hg3 hnil3; go_frame) | go_in)
        go_roundg (gk - 1)
        case measure => omega
        case rel =>
          refine ⟨k + 1, by omega, by go_num, by rw [HSN.out, List.length_append, List.map_append]; exact hown', Lib.hid ?_, Lib.hid ?_⟩
          · exact (HX.out.alloc _).kept hg3 (fun e => by have := (hown.lt _ e.symm).1; omega)
          · exact (HB.out.alloc (by omega) _).grown hg3 (by simp; omega) (fun j hj => by have := (hown.lt j hj).1; omega)
      · rw [if_neg ha, List.append_nil] at hsn
        have HSN := Lib.hid hsn
        have t1 : (z == a) = false := by simpa using ha
        have HO := Lib.hid hown
        clear hsn ha hown
        go_wp2
        go_roundg (gk - 1)
        case measure => omega
        case rel => exact ⟨k + 1, by omega, by go_num, by rw [HSN.out]; exact HO.out, HX, HB⟩
    · obtain rfl : k = n := by omega
      rw [List.take_of_length_le (by rw [← HL.out]; exact Nat.le_refl _)] at hown
      obtain ⟨y, c2, rfl⟩ := owns_slice hown
      have HO := Lib.hid hown
      clear hown
      go_wp2
      go_ret
      exact ⟨y, _, c2, rfl, owns_cap HO.out, sees_strs HO.out rfl, HB.out⟩
set_option maxHeartbeats 2000000 in
theorem wactOf (s : ByteArray) (w : World) : Calls Try.prog 22 #[.string s] w fun e w' => e = .returned (.tuple #[.int .i64 (actOf s), .bool (decide (0 ≤ Lib.idxOfS wordsL s))]) ∧ Below w.heap.size w w' := by
  go_enter Try.func22, Try.ntmps22
  go_wp2_with (first | (go_at_call 54; fail))
  go_at_call 54
  refine (wwordsR _).mono ?_
  rintro e w1 hm
  have HB1 := Lib.hid hm.below
  have HC := Lib.hid hm.cells
  have he := hm.1
  clear hm
  subst he
  have hl : wordsL.length = 19 := rfl
  rw [hl]
  go_wp2_with fail
  go_loopg [5] 19 (fun gh i wr => ∃ k : Nat, k + gh = 19 ∧ i = .int .i64 k ∧ Hid (∀ j, j < k → wordsL.getD j ByteArray.empty ≠ s) ∧ w1 = wr)
  case atStart => exact ⟨0, rfl, rfl, Lib.hid (fun j hj => by omega), rfl⟩
  case round =>
    obtain ⟨k, hk, rfl, HJ, rfl⟩ := hrel
    by_cases hlt : k < 19
    · have hc := HC.out k hlt
      have hnth : nthS wordsL ((k : Int) + 1) = wordsL.getD k ByteArray.empty := by
        have h1 := nthS_in (l := wordsL) (k := k) hlt
        rw [getD_getElem hlt ByteArray.empty] at h1
        exact (Option.some.inj h1).symm
      rw [hnth] at hc
      obtain ⟨z, hz⟩ : ∃ z, z = wordsL.getD k ByteArray.empty := ⟨_, rfl⟩
      rw [← hz] at hc
      have HZ := Lib.hid hz
      clear hz hnth
      by_cases he : z = s
      · have t1 : (z.toList == s.toList) = true := by rw [beq_bytes]; exact decide_eq_true he
        have HI := Lib.hid (show Lib.idxOfS wordsL s = k from by
          have := Lib.idxOfS_hit wordsL 19 k s hlt (Nat.le_refl _) (by rw [← HZ.out]; exact he) HJ.out
          exact this)
        clear he
        go_wp2
        go_ret2
        refine ⟨?_, HB1.out⟩
        rw [actOf, HI.out, decide_eq_true (show (0 : Int) ≤ (k : Int) by omega)]
        rfl
      · have t1 : (z.toList == s.toList) = false := by rw [beq_bytes]; exact decide_eq_false he
        have HE := Lib.hid he
        clear he
        go_wp2
        go_roundg (gk - 1)
        case measure => omega
        case rel => exact ⟨k + 1, by omega, by go_num, Lib.hid (ext_lt (p := fun j => wordsL.getD j ByteArray.empty ≠ s) HJ.out (by rw [← HZ.out]; exact HE.out)), rfl⟩
    · obtain rfl : k = 19 := by omega
      have HI := Lib.hid (show Lib.idxOfS wordsL s = -1 from Lib.idxOfS_miss wordsL 19 s HJ.out)
      go_wp2
      go_ret2
      refine ⟨?_, HB1.out⟩
      rw [actOf, HI.out]
      rfl
end Go.Proofs.Ythkcfdnenbboaaa
