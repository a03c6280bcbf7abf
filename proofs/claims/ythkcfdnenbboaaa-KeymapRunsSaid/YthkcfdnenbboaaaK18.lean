/- Walks: Bind, Len. -/
import Derived.Test.YthkcfdnenbboaaaK17
namespace Go.Proofs.Ythkcfdnenbboaaa
open Go.RowKit Go.Shelf Go.Maps
theorem wlen {w : World} {b mb m c : Nat} {f : Bnd} (h : MapI w b mb m c f) : Calls Try.prog 9 #[.pointer (some ⟨b, 0, none⟩)] w fun e w' => e = .returned (.int .i64 c) ∧ w = w' := by
  have hc := h.get.1
  have HC := Lib.hid hc
  have hl := fun ty => h.map.len ty
  clear h
  go_enter Try.func9, Try.ntmps9
  go_wp2_with (go_at_call 36; refine (wmade _ _ _ HC.out).mono ?_; rintro e w' ⟨rfl, rfl⟩)
  go_ret
  exact ⟨rfl, rfl⟩
def bindE (f : Bnd) (c : Nat) (n : List UInt8) (a : Int) : Int :=
  if n = [] then 80 else if a < 1 ∨ 19 < a then 1 else if f.act (mkS n) = 0 ∧ 512 ≤ c then 3 else 0
def bindF (f : Bnd) (c : Nat) (n : List UInt8) (a : Int) : Bnd := if bindE f c n a = 0 then f.put (mkS n) a else f
def bindC (f : Bnd) (c : Nat) (n : List UInt8) (a : Int) : Nat := if bindE f c n a = 0 ∧ f.has (mkS n) = false then c + 1 else c
def BindEnd (w : World) (b mb m c : Nat) (f : Bnd) (n : List UInt8) (a : Int) (e : Ending) (w' : World) : Prop :=
  e = .returned (.int .i64 (bindE f c n a)) ∧ MapI w' b mb (m + 1) (bindC f c n a) (bindF f c n a) ∧ But [mb] w w'
theorem MapI.more {w : World} {b mb m c : Nat} {f : Bnd} (h : MapI w b mb m c f) : MapI w b mb (m + 1) c f := ⟨h.cells, h.map.mono (by omega)⟩
theorem bind_same {w w' : World} {b mb m c : Nat} {f : Bnd} (h : MapI w b mb m c f) {n : List UInt8} {a : Int} {x : Int} (hx : bindE f c n a = x) (h0 : x ≠ 0) (hB : Below w.heap.size w w') : BindEnd w b mb m c f n a (.returned (.int .i64 x)) w' := by
  have hE : bindE f c n a ≠ 0 := by rw [hx]; exact h0
  refine ⟨by rw [hx], ?_, But.of hB⟩
  rw [bindC, bindF, if_neg hE, if_neg (fun q => hE q.1)]
  exact (h.below hB).more
theorem word_empty (a : Int) : (wordOf a).toList.isEmpty = decide (a < 1 ∨ 19 < a) := by
  by_cases h : a < 1 ∨ 19 < a
  · have e : wordOf a = ⟨#[]⟩ := nthS_out (by have : wordsL.length = 19 := rfl; omega)
    rw [e, decide_eq_true h, ByteArray.toList_eq]; rfl
  · rw [decide_eq_false h]
    have : a = 1 ∨ a = 2 ∨ a = 3 ∨ a = 4 ∨ a = 5 ∨ a = 6 ∨ a = 7 ∨ a = 8 ∨ a = 9 ∨ a = 10 ∨ a = 11 ∨ a = 12 ∨ a = 13 ∨ a = 14 ∨ a = 15 ∨ a = 16 ∨ a = 17 ∨ a = 18 ∨ a = 19 := by omega
    rcases this with q | q | q | q | q | q | q | q | q | q | q | q | q | q | q | q | q | q | q <;> subst q <;> rw [ByteArray.toList_eq] <;> rfl
set_option maxRecDepth 100000 in
set_option maxHeartbeats 4000000 in
theorem wbind {w : World} {b mb m c : Nat} {f : Bnd} (h : MapI w b mb m c f) (hm : m ≤ 100000) (k : Ky) (hk : k.In) (a : Int) (ha : -9223372036854775808 ≤ a ∧ a ≤ 9223372036854775807) :
    Calls Try.prog 8 #[.pointer (some ⟨b, 0, none⟩), k.v, .int .i64 a] w (BindEnd w b mb m c f k.name a) := by
  have HM := Lib.hid h
  have HN := Lib.hid (fun W => wnameS k hk W)
  have HS := Lib.hid (name_sz k hk)
  have HW := Lib.hid (fun W => wword a ha W)
  have hb := h.get.2.1
  have HMM := Lib.hid hm
  clear h hk hm
  obtain ⟨kc, ks, kn, kal, ksh, kct⟩ := k
  generalize hkk : (Ky.mk kc ks kn kal ksh kct) = k at *
  have hv : k.v = .agg #[.int .i64 kc, .string ks, .int .i64 kn, .bool kal, .bool ksh, .bool kct] := by rw [← hkk]; rfl
  rw [hv] at HN ⊢
  clear hv hkk
  have H0 := Lib.hid (HM.out.below ((Below.refl w.heap.size w).alloc (Nat.le_refl _) (.cells #[.int .i64 kc, .string ks, .int .i64 kn, .bool kal, .bool ksh, .bool kct] 27)))
  have C0 := Lib.hid H0.out.get.1
  go_enter Try.func8, Try.ntmps8
  go_wp2_with (first | (go_at_call 36; refine (wmade _ _ _ C0.out).mono ?_; rintro e w' ⟨rfl, rfl⟩) | (go_at_call 17; fail))
  go_at_call 17
  refine (HN.out _).mono ?_
  rintro e w1 ⟨rfl, hb1⟩
  have HB := Lib.hid (((Below.refl w.heap.size w).alloc (Nat.le_refl _) _).trans (below_le hb1 (by simp)))
  clear hb1 H0 C0
  by_cases hn : k.name = []
  · have t1 : (mkS k.name).toList.isEmpty = true := by rw [mkS_empty]; exact decide_eq_true hn
    have e1 := Lib.hid (show bindE f c k.name a = 80 by rw [bindE, if_pos hn])
    clear hn
    go_wp2
    go_ret
    exact bind_same HM.out e1.out (by decide) HB.out
  · have t1 : (mkS k.name).toList.isEmpty = false := by rw [mkS_empty]; exact decide_eq_false hn
    have HNN := Lib.hid hn
    clear hn
    go_wp2_with (first | (go_at_call 23; fail))
    go_at_call 23
    refine (HW.out _).mono ?_
    rintro e w2 ⟨rfl, hb2⟩
    have HB2 := Lib.hid (HB.out.trans (below_le hb2 HB.out.size))
    have HM2 := Lib.hid (HM.out.below HB2.out)
    clear hb2
    have hc := HM2.out.get.1
    by_cases hw : a < 1 ∨ 19 < a
    · have t2 : (wordOf a).toList.isEmpty = true := by rw [word_empty]; exact decide_eq_true hw
      have e1 := Lib.hid (show bindE f c k.name a = 1 by rw [bindE, if_neg HNN.out, if_pos hw])
      clear hw
      go_wp2
      go_ret
      exact bind_same HM.out e1.out (by decide) HB2.out
    · have t2 : (wordOf a).toList.isEmpty = false := by rw [word_empty]; exact decide_eq_false hw
      have hl := HM2.out.map.look (mkS k.name) HS.out
      have hn := fun ty => HM2.out.map.len ty
      have HWW := Lib.hid hw
      obtain ⟨w3, hrun, hM3, hg3⟩ := HM2.out.map.put (by have := HMM.out; unfold maxLen; omega) (mkS k.name) HS.out a (by omega)
      have HT := Lib.hid (HM2.out.turned hM3 hg3)
      clear hM3 hg3 hw
      by_cases q1 : f.act (mkS k.name) = 0
      · have u1 : (f.act (mkS k.name) == 0) = true := by simp [q1]
        have Q1 := Lib.hid q1
        clear q1
        by_cases q2 : 512 ≤ c
        · have e1 := Lib.hid (show bindE f c k.name a = 3 by rw [bindE, if_neg HNN.out, if_neg HWW.out, if_pos ⟨Q1.out, q2⟩])
          go_wp2
          go_ret
          exact bind_same HM.out e1.out (by decide) HB2.out
        · have e1 := Lib.hid (show bindE f c k.name a = 0 by rw [bindE, if_neg HNN.out, if_neg HWW.out, if_neg (fun q => q2 q.2)])
          have q3 : c < 512 := by omega
          clear q2
          go_wp2
          go_ret
          refine ⟨by rw [e1.out]; rfl, ?_, (But.of HB2.out).trans (HT.out.2.sub (fun j hj _ => hj))⟩
          have hT := HT.out.1
          rw [bindF, if_pos e1.out, bindC, e1.out]
          cases hh : f.has (mkS k.name) <;> rw [hh] at hT <;> exact hT
      · have u1 : (f.act (mkS k.name) == 0) = false := by simp [q1]
        have e1 := Lib.hid (show bindE f c k.name a = 0 by rw [bindE, if_neg HNN.out, if_neg HWW.out, if_neg (fun q => q1 q.1)])
        have Q1 := Lib.hid q1
        clear q1
        go_wp2
        go_ret
        refine ⟨by rw [e1.out]; rfl, ?_, (But.of HB2.out).trans (HT.out.2.sub (fun j hj _ => hj))⟩
        have hT := HT.out.1
        rw [bindF, if_pos e1.out, bindC, e1.out]
        cases hh : f.has (mkS k.name) <;> rw [hh] at hT <;> exact hT
end Go.Proofs.Ythkcfdnenbboaaa
