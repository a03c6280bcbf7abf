/- Walks: the reference's lines. -/
import Derived.Test.YtlhfdpeidlbomaaDoorTM
namespace Go.Proofs.YtlhfdpeidlbomaaDoor
open Go.RowKit Go.Shelf
theorem tx_size (l : Bs) : (tx l).size = l.length := by simp [tx, ByteArray.size]
theorem tx_byte (s : Bs) (i : Nat) (h : i < (tx s).size) (h2 : i < s.length) : (tx s)[i]'h = s[i]'h2 := rfl
theorem tx_extract (s : Bs) (f i : Nat) : (tx s).extract f i = tx ((s.drop f).take (i - f)) := by
  apply ByteArray.ext
  simp [tx]
theorem tx_from (s : Bs) (f : Nat) : (tx s).extract f (tx s).size = tx (s.drop f) := by
  rw [tx_extract, tx_size, List.take_of_length_le (by simp)]
/-- Where lines stands: the pieces so far, and that none ends in what is under way. -/
structure LnAt (s : Bs) (P : List Bs) (f i : Nat) : Prop where
  eq : nl s = P ++ nl (s.drop f)
  le : f ≤ i ∧ i ≤ s.length
  no : (10 : UInt8) ∉ (s.drop f).take (i - f)
  few : P.length ≤ f
theorem LnAt.start (s : Bs) : LnAt s [] 0 0 := ⟨rfl, by omega, by simp, by simp⟩
theorem LnAt.hit {s : Bs} {P : List Bs} {f i : Nat} (h : LnAt s P f i) (hi : i < s.length) (hc : s[i] = 10) : LnAt s (P ++ [(s.drop f).take (i - f)]) (i + 1) (i + 1) := by
  have e : s.drop f = (s.drop f).take (i - f) ++ 10 :: s.drop (i + 1) := by
    conv => lhs; rw [← List.take_append_drop (i - f) (s.drop f)]
    rw [List.drop_drop, show f + (i - f) = i by have := h.le; omega, List.drop_eq_getElem_cons hi, hc]
  refine ⟨?_, by omega, by simp, by have := h.few; have := h.le; simp; omega⟩
  rw [h.eq, e, nl_app _ _ h.no]
  simp [← e]
theorem LnAt.miss {s : Bs} {P : List Bs} {f i : Nat} (h : LnAt s P f i) (hi : i < s.length) (hc : s[i] ≠ 10) : LnAt s P f (i + 1) := by
  refine ⟨h.eq, by have := h.le; omega, ?_, h.few⟩
  rw [show i + 1 - f = (i - f) + 1 by have := h.le; omega, List.take_succ_eq_append_getElem (by simp; have := h.le; omega), List.mem_append]
  rintro (q | q)
  · exact h.no q
  · have hx : (s.drop f)[i - f]'(by simp; have := h.le; omega) = s[i] := by
      rw [List.getElem_drop]
      congr 1
      have := h.le
      omega
    rw [hx] at q
    simp at q
    exact hc q.symm
theorem LnAt.done {s : Bs} {P : List Bs} {f : Nat} (h : LnAt s P f s.length) : nl s = P ++ [s.drop f] := by
  have hn := h.no
  rw [List.take_of_length_le (by simp)] at hn
  rw [h.eq, nl_one _ hn]
/-- What lines comes to. -/
def LinesEnd (ls : List Bs) (w : World) (e : Ending) (w' : World) : Prop :=
  ∃ g cap, e = .returned (.slice (some ⟨g, 0, none⟩) ls.length cap) ∧ ls.length ≤ cap ∧ g < w'.heap.size ∧ w.heap.size ≤ g ∧ (∀ j, j < ls.length → w'.cell? ⟨g, j, none⟩ = some (.string (tx (ls.getD j [])))) ∧ Below w.heap.size w w'
theorem strVs_app (A B : List Bs) : strVs (A ++ B) = strVs A ++ strVs B := by simp [strVs]
set_option maxRecDepth 100000 in
set_option maxHeartbeats 4000000 in
theorem wlines (s : Bs) (hs : s.length ≤ 1000000) (w : World) : Calls Tryd.prog 31 #[.string (tx s)] w (LinesEnd (nl s) w) := by
  obtain ⟨i0, hi, hz0, hz1, hz2⟩ := info_parts9
  have hsz := tx_size s
  have hsm : (tx s).size ≤ 1000000 := by omega
  have HSZ := Lib.hid hsz
  clear hsz
  go_enter Tryd.func31, Tryd.ntmps31
  go_wp2
  go_loopw [3, 4, 5] (fun v f i wr => ∃ (P : List Bs) (nf ni : Nat), f = .int .i64 nf ∧ i = .int .i64 ni ∧ Hid (LnAt s P nf ni) ∧ ni ≤ (tx s).size ∧ nf ≤ ni ∧ P.length ≤ 1000000 ∧ wr.ownsRow w.heap.size 9 1 v P.length (strVs P) ∧ Hid (Below w.heap.size w wr)) (fun _ _ i _ => (tx s).size - (intOf i).toNat)
  case atStart => exact ⟨[], 0, 0, rfl, rfl, Lib.hid (LnAt.start s), Nat.zero_le _, Nat.le_refl _, by simp, ⟨rfl, .inl ⟨rfl, rfl⟩⟩, Lib.hid (Below.refl _ _)⟩
  case round =>
    obtain ⟨P, nf, ni, rfl, rfl, HL, hni, hnf, hP, hown, HB⟩ := hrel
    by_cases hlt : ni < (tx s).size
    · have hsl : ni < s.length := by rw [← HSZ.out]; exact hlt
      have hbyte := tx_byte s ni hlt hsl
      have HSL := Lib.hid hsl
      have i1 : (0 : Int) ≤ (nf : Int) := by omega
      have i2 : (nf : Int) ≤ (ni : Int) := by omega
      have i3 : (ni : Int) ≤ ((tx s).size : Int) := by omega
      by_cases hc : s[ni]'hsl = 10
      · have hb : ((((tx s)[ni]'hlt).toNat : Int) == 10) = true := by rw [hbyte, hc]; rfl
        have HN := Lib.hid (HL.out.hit hsl hc)
        have HF := Lib.hid HL.out.few
        have HEX := Lib.hid (tx_extract s nf ni)
        clear hbyte hc hsl
        go_wp2_with (at_builtin; go_loud (refine wpList_append_own _ rfl _ _ 57 rfl w.heap.size 9 i0 (.string ⟨#[]⟩) 1 16 Tryd.underlying57 hi hz0 hz1 hz2 rfl (by decide) _ _ _ rfl (hown.alloc _) ⟨wr.heap.size, 0, none⟩ 1 1 [.string ((tx s).extract nf ni)] rfl rfl (cell_one_new _ _ _) (by simp [Value.oneCell']) (by unfold maxLen; omega) (by omega) (by have := HB.out.size; simp; omega) ?_))
        intro v1 w2 hown1 hgrow1 _
        go_wp2
        go_roundw
        case rel =>
          refine ⟨P ++ [(s.drop nf).take (ni - nf)], ni + 1, ni + 1, by go_num, by go_num, HN, by omega, by omega, by have := HF.out; simp; omega, ?_, Lib.hid ?_⟩
          · rw [strVs_app, List.length_append, List.length_singleton, show strVs [(s.drop nf).take (ni - nf)] = [.string ((tx s).extract nf ni)] by rw [HEX.out]; rfl]
            exact hown1
          · exact (HB.out.alloc HB.out.size _).grown hgrow1 (by have := HB.out.size; simp; omega) (fun j hj => (hown.lt j hj).1)
        case measure => simp [intOf]; omega
      · have hb : ((((tx s)[ni]'hlt).toNat : Int) == 10) = false := by
          rw [hbyte, beq_eq_false_iff_ne]
          intro q
          exact hc (UInt8.toNat_inj.1 (by have : (10 : UInt8).toNat = 10 := rfl; omega))
        have HN := Lib.hid (HL.out.miss hsl hc)
        clear hbyte hc hsl
        go_wp2
        go_roundw
        case rel => exact ⟨P, nf, ni + 1, rfl, by go_num, HN, by omega, by omega, hP, hown, HB⟩
        case measure => simp [intOf]; omega
    · obtain rfl : ni = (tx s).size := by omega
      have hd := HL.out
      rw [HSZ.out] at hd
      have HN := Lib.hid hd.done
      have HF := Lib.hid (show P.length ≤ 1000000 from hP)
      have HEX := Lib.hid (tx_from s nf)
      have i1 : (0 : Int) ≤ (nf : Int) := by omega
      have i2 : (nf : Int) ≤ ((tx s).size : Int) := by omega
      clear hd
      go_wp2_with (at_builtin; go_loud (refine wpList_append_own _ rfl _ _ 57 rfl w.heap.size 9 i0 (.string ⟨#[]⟩) 1 16 Tryd.underlying57 hi hz0 hz1 hz2 rfl (by decide) _ _ _ rfl (hown.alloc _) ⟨wr.heap.size, 0, none⟩ 1 1 [.string ((tx s).extract nf (tx s).size)] rfl rfl (cell_one_new _ _ _) (by simp [Value.oneCell']) (by unfold maxLen; omega) (by omega) (by have := HB.out.size; simp; omega) ?_))
      intro v1 w2 hown1 hgrow1 _
      obtain ⟨g, cap, rfl⟩ := ownsRow_succ hown1
      have HO := Lib.hid hown1
      have HG := Lib.hid ((HB.out.alloc HB.out.size (.cells #[.string ((tx s).extract nf (tx s).size)] 9)).grown hgrow1 (by have := HB.out.size; simp; omega) (fun j hj => (hown.lt j hj).1))
      clear hown1 hgrow1
      go_wp2
      go_ret
      have hl : (nl s).length = P.length + 1 := by rw [HN.out]; simp
      have hv : strVs (nl s) = strVs P ++ [.string ((tx s).extract nf (tx s).size)] := by rw [HN.out, strVs_app, HEX.out]; rfl
      have ho := HO.out
      refine ⟨g, cap, by rw [hl]; rfl, ?_, ?_, ?_, ?_, HG.out⟩
      · rcases ho.2 with ⟨hv, _⟩ | ⟨g', cp, cur, hv, _, _, hnc, _⟩
        · cases hv
        · cases hv; rw [hl]; exact hnc
      · exact (ho.lt g rfl).2
      · exact (ho.lt g rfl).1
      · intro j hj
        have h1 := ho.cellAt j (by rw [hl] at hj; omega)
        rw [h1, ← hv, strVs, List.getElem?_map, List.getD_eq_getElem?_getD, List.getElem?_eq_getElem hj]
        rfl
end Go.Proofs.YtlhfdpeidlbomaaDoor
