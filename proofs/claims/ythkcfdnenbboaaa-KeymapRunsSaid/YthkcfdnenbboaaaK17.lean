/- Walks: Act of a map, the examples. -/
import Derived.Test.YthkcfdnenbboaaaK16
namespace Go.Proofs.Ythkcfdnenbboaaa
open Go.RowKit Go.Shelf Go.Maps
theorem numS_len (n : Int) : (numS n).data.toList.length ≤ 2 := numS_size n
theorem name_len (k : Ky) (hk : k.In) : k.name.length ≤ 140737488355400 := by
  unfold Ky.name
  split
  · have h1 : (preL k.alt k.ctl k.shift).length ≤ 14 := by cases k.alt <;> cases k.ctl <;> cases k.shift <;> decide
    have h2 : (codeOf k.code).data.toList.length ≤ 9 := codeOf_size k.code
    have h3 : (tailL k).length ≤ 1 + k.s.size + 2 := by
      have hs : k.s.data.toList.length = k.s.size := rfl
      have hn := numS_len k.n
      unfold tailL
      split
      · split
        · simp only [List.length_cons]; omega
        · simp
      · split
        · omega
        · split
          · omega
          · simp
    have := hk.s
    simp only [List.length_append]
    omega
  · simp
theorem name_sz (k : Ky) (hk : k.In) : (mkS k.name).size ≤ maxLen := by
  have := name_len k hk
  rw [mkS_size]; unfold maxLen; omega
theorem mkS_empty (l : List UInt8) : (mkS l).toList.isEmpty = decide (l = []) := by
  rw [ByteArray.toList_eq]
  cases l with
  | nil => rfl
  | cons a l => simp [mkS]
/-- What a name is bound to. -/
def Bnd.actN (f : Bnd) (n : List UInt8) : Int := if n = [] then 0 else f.act (mkS n)
def Bnd.hasN (f : Bnd) (n : List UInt8) : Bool := if n = [] then false else f.has (mkS n)
set_option maxHeartbeats 1000000 in
theorem wactM {w : World} {b mb m c : Nat} {f : Bnd} (h : MapI w b mb m c f) (k : Ky) (hk : k.In) : Calls Try.prog 29 #[.pointer (some ⟨b, 0, none⟩), k.v] w fun e w' => e = .returned (.tuple #[.int .i64 (f.actN k.name), .bool (f.hasN k.name)]) ∧ Below w.heap.size w w' := by
  have HM := Lib.hid h
  have HN := Lib.hid (fun W => wnameS k hk W)
  have HS := Lib.hid (name_sz k hk)
  have hb := h.get.2.1
  clear h hk
  obtain ⟨kc, ks, kn, kal, ksh, kct⟩ := k
  generalize hkk : (Ky.mk kc ks kn kal ksh kct) = k at *
  have hv : k.v = .agg #[.int .i64 kc, .string ks, .int .i64 kn, .bool kal, .bool ksh, .bool kct] := by rw [← hkk]; rfl
  rw [hv] at HN ⊢
  clear hv hkk
  obtain ⟨A, hA⟩ : ∃ A, A = f.actN k.name := ⟨_, rfl⟩
  obtain ⟨B, hB⟩ : ∃ B, B = f.hasN k.name := ⟨_, rfl⟩
  rw [← hA, ← hB]
  have HA := Lib.hid hA
  have HBB := Lib.hid hB
  clear hA hB
  go_enter Try.func29, Try.ntmps29
  go_wp2_with (first | (go_at_call 17; fail))
  go_at_call 17
  refine (HN.out _).mono ?_
  rintro e w1 ⟨rfl, hb1⟩
  have HB := Lib.hid (((Below.refl w.heap.size w).alloc (Nat.le_refl _) _).trans (below_le hb1 (by simp)))
  have HM1 := Lib.hid ((HM.out.below ((Below.refl w.heap.size w).alloc (Nat.le_refl _) _)).below hb1)
  clear hb1
  have hc := HM1.out.get.1
  have HC := Lib.hid hc
  by_cases hn : k.name = []
  · have t1 : (mkS k.name).toList.isEmpty = true := by rw [mkS_empty]; exact decide_eq_true hn
    have e1 : f.actN k.name = 0 := by rw [Bnd.actN, if_pos hn]
    have e2 : f.hasN k.name = false := by rw [Bnd.hasN, if_pos hn]
    have E1 := Lib.hid (HA.out.trans e1)
    have E2 := Lib.hid (HBB.out.trans e2)
    clear hn e1 e2 hc
    go_wp2_with (go_at_call 36; refine (wmade _ _ _ HC.out).mono ?_; rintro e w' ⟨rfl, rfl⟩)
    go_ret2
    exact ⟨by rw [E1.out, E2.out]; rfl, HB.out⟩
  · have t1 : (mkS k.name).toList.isEmpty = false := by rw [mkS_empty]; exact decide_eq_false hn
    have e1 : f.actN k.name = f.act (mkS k.name) := by rw [Bnd.actN, if_neg hn]
    have e2 : f.hasN k.name = f.has (mkS k.name) := by rw [Bnd.hasN, if_neg hn]
    have E1 := Lib.hid (HA.out.trans e1)
    have E2 := Lib.hid (HBB.out.trans e2)
    have hl := HM1.out.map.look_ok (mkS k.name) HS.out
    clear hn e1 e2
    go_wp2_with (go_at_call 36; refine (wmade _ _ _ HC.out).mono ?_; rintro e w' ⟨rfl, rfl⟩)
    go_ret2
    exact ⟨by rw [E1.out, E2.out]; rfl, HB.out⟩
theorem ky_in (c n : Int) (s : ByteArray) (al sh ct : Bool) (hc : 0 ≤ c ∧ c ≤ 100) (hn : 0 ≤ n ∧ n ≤ 100) (hs : s.size ≤ 100) : (Ky.mk c s n al sh ct).In := ⟨by simp only []; omega, by simp only []; omega, by simp only []; omega⟩
theorem nm_up : (Ky.mk 8 ⟨#[]⟩ 0 false false false).name = [117, 112] := by
  have h : (Ky.mk 8 ⟨#[]⟩ 0 false false false).ok = true := by simp [Ky.ok, okN, okS_empty]
  rw [Ky.name, h]; rfl
theorem nm_ca : (Ky.mk 17 ⟨#[97]⟩ 0 false false false).name = [99, 116, 114, 108, 45, 97] := rfl
theorem nm_al : (Ky.mk 10 ⟨#[]⟩ 0 true false false).name = [97, 108, 116, 45, 108, 101, 102, 116] := by
  have h : (Ky.mk 10 ⟨#[]⟩ 0 true false false).ok = true := by simp [Ky.ok, okN, okS_empty]
  rw [Ky.name, h]; rfl
theorem nm_ab : (Ky.mk 1 ⟨#[98]⟩ 0 true false false).name = [97, 108, 116, 45, 116, 101, 120, 116, 46, 98] := rfl
theorem usual_up : (usualF 32).act (mkS [117, 112]) = 18 ∧ (usualF 32).has (mkS [117, 112]) = true := by decide +kernel
theorem word_older : wordOf 18 = mkS [111, 108, 100, 101, 114] := rfl
set_option maxRecDepth 100000 in
set_option maxHeartbeats 4000000 in
theorem awake_any (w : World) : Calls Try.prog 10 #[] w fun e w' => e = .returned (.bool true) ∧ Below w.heap.size w w' := by
  have HU := Lib.hid usual_up
  have N1 := Lib.hid (fun W => wnameS ⟨17, ⟨#[97]⟩, 0, false, false, false⟩ (ky_in _ _ _ _ _ _ (by omega) (by omega) (by decide)) W)
  rw [nm_ca] at N1
  have N2 := Lib.hid (fun W => wnameS ⟨10, ⟨#[]⟩, 0, true, false, false⟩ (ky_in _ _ _ _ _ _ (by omega) (by omega) (by decide)) W)
  rw [nm_al] at N2
  have N3 := Lib.hid (fun W => wnameS ⟨1, ⟨#[98]⟩, 0, true, false, false⟩ (ky_in _ _ _ _ _ _ (by omega) (by omega) (by decide)) W)
  rw [nm_ab] at N3
  have N4 := Lib.hid (fun W => wword 18 (by omega) W)
  rw [word_older] at N4
  have b1 : ((mkS [99, 116, 114, 108, 45, 97]).toList == [99, 116, 114, 108, 45, 97]) = true := by rw [ByteArray.toList_eq]; rfl
  have b2 : ((mkS [97, 108, 116, 45, 108, 101, 102, 116]).toList == [97, 108, 116, 45, 108, 101, 102, 116]) = true := by rw [ByteArray.toList_eq]; rfl
  have b3 : ((mkS [97, 108, 116, 45, 116, 101, 120, 116, 46, 98]).toList == [97, 108, 116, 45, 116, 101, 120, 116, 46, 98]) = true := by rw [ByteArray.toList_eq]; rfl
  have b4 : ((mkS [111, 108, 100, 101, 114]).toList == [111, 108, 100, 101, 114]) = true := by rw [ByteArray.toList_eq]; rfl
  go_enter Try.func10, Try.ntmps10
  go_wp2_with (first | (go_at_call 19; fail))
  go_at_call 19
  refine (wusualM _).mono ?_
  rintro e w1 ⟨rfl, hM, hB⟩
  have HM := Lib.hid hM
  have HB := Lib.hid hB
  clear hM hB
  go_wp2_with (first | (go_at_call 29; fail))
  go_at_call 29
  refine (wactM HM.out ⟨8, ⟨#[]⟩, 0, false, false, false⟩ (ky_in _ _ _ _ _ _ (by omega) (by omega) (by decide))).mono ?_
  rintro e w2 ⟨rfl, hB2⟩
  have e1 : (usualF 32).actN (Ky.mk 8 ⟨#[]⟩ 0 false false false).name = 18 := by rw [nm_up]; exact HU.out.1
  have e2 : (usualF 32).hasN (Ky.mk 8 ⟨#[]⟩ 0 false false false).name = true := by rw [nm_up]; exact HU.out.2
  rw [e1, e2]
  have HB2 := Lib.hid (HB.out.trans (below_le hB2 HB.out.size))
  clear e1 e2 hB2
  go_wp2_with (first | (go_at_call 23; fail))
  go_at_call 23
  refine (N4.out _).mono ?_
  rintro e w3 ⟨rfl, hB3⟩
  have HB3 := Lib.hid (HB2.out.trans (below_le hB3 HB2.out.size))
  clear hB3
  go_wp2_with (first | (go_at_call 17; fail))
  go_at_call 17
  refine (N1.out _).mono ?_
  rintro e w4 ⟨rfl, hB4⟩
  have HB4 := Lib.hid (HB3.out.trans (below_le hB4 HB3.out.size))
  clear hB4
  go_wp2_with (first | (go_at_call 17; fail))
  go_at_call 17
  refine (N2.out _).mono ?_
  rintro e w5 ⟨rfl, hB5⟩
  have HB5 := Lib.hid (HB4.out.trans (below_le hB5 HB4.out.size))
  clear hB5
  go_wp2_with (first | (go_at_call 17; fail))
  go_at_call 17
  refine (N3.out _).mono ?_
  rintro e w6 ⟨rfl, hB6⟩
  have HB6 := Lib.hid (HB5.out.trans (below_le hB6 HB5.out.size))
  clear hB6
  go_wp2
  go_ret
  exact ⟨rfl, HB6.out⟩
end Go.Proofs.Ythkcfdnenbboaaa
