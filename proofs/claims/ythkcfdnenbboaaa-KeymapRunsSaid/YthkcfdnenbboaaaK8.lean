/- Walk: Name of the reference (written by gen_k8.py). -/
import Derived.Test.YthkcfdnenbboaaaK7
namespace Go.Proofs.Ythkcfdnenbboaaa
open Go.RowKit Go.Shelf
def mkS (l : List UInt8) : ByteArray := ⟨l.toArray⟩
theorem mkS_app (l : List UInt8) (t : ByteArray) : mkS l ++ t = mkS (l ++ t.data.toList) := by
  apply ByteArray.ext
  simp [mkS]
/-- The key in its box. -/
structure NB (w : World) (k : Ky) (w' : World) : Prop where
  box : w'.heap[w.heap.size]? = some (.cells #[.int .i64 k.code, .string k.s, .int .i64 k.n, .bool k.alt, .bool k.shift, .bool k.ctl] 27 (0, 0))
  bel : Below w.heap.size w w'
theorem NB.kept {w : World} {k : Ky} {w1 w2 : World} (h : NB w k w1) (hb : Below w1.heap.size w1 w2) : NB w k w2 :=
  ⟨(hb.block _ (Array.getElem?_eq_some_iff.1 h.box).1).trans h.box, h.bel.trans (below_le hb h.bel.size)⟩
theorem NB.cells {w : World} {k : Ky} {w1 : World} (h : NB w k w1) :
    w1.cell? ⟨w.heap.size, 0, none⟩ = some (.int .i64 k.code) ∧ w1.cell? ⟨w.heap.size, 1, none⟩ = some (.string k.s) ∧ w1.cell? ⟨w.heap.size, 2, none⟩ = some (.int .i64 k.n) ∧ w1.cell? ⟨w.heap.size, 3, none⟩ = some (.bool k.alt) ∧ w1.cell? ⟨w.heap.size, 4, none⟩ = some (.bool k.shift) ∧ w1.cell? ⟨w.heap.size, 5, none⟩ = some (.bool k.ctl) := by
  have hb := h.box
  exact ⟨by simp [World.cell?, hb], by simp [World.cell?, hb], by simp [World.cell?, hb], by simp [World.cell?, hb], by simp [World.cell?, hb], by simp [World.cell?, hb]⟩
set_option maxRecDepth 100000 in
set_option maxHeartbeats 2000000 in
theorem wnameR (k : Ky) (hk : k.In) (w : World) : Calls Try.prog 18 #[k.v] w fun e w' => e = .returned (.string ⟨k.name.toArray⟩) ∧ Below w.heap.size w w' := by
  cases hok : k.ok with
  | false =>
    have e0 : k.name = [] := by rw [Ky.name, hok]; rfl
    have e1 : k.err = 80 := by rw [Ky.err, hok]; rfl
    rw [e0]
    have hC := fun W => wcheckR k hk W
    rw [e1] at hC
    have HC := Lib.hid hC
    clear hC hok e0 e1 hk
    obtain ⟨c, s, n, al, sh, ct⟩ := k
    unfold Ky.v at HC ⊢
    go_enter Try.func18, Try.ntmps18
    go_wp2_with (first | (go_at_call 16; fail))
    go_at_call 16
    refine (HC.out _).mono ?_
    rintro e w1 ⟨rfl, hb⟩
    have HB := Lib.hid (((Below.refl w.heap.size w).alloc (Nat.le_refl _) _).trans (below_le hb (by simp)))
    clear hb
    go_wp2
    go_ret
    exact ⟨rfl, HB.out⟩
  | true =>
    have e1 : k.err = 0 := by rw [Ky.err, hok]; rfl
    have hC := fun W => wcheckR k hk W
    rw [e1] at hC
    have HC := Lib.hid hC
    have HOK := Lib.hid hok
    clear hC hok e1 hk
    obtain ⟨c, s, n, al, sh, ct⟩ := k
    have hc18 : 1 ≤ c ∧ c ≤ 18 := by have h := HOK.out; simp only [Ky.ok, Bool.and_eq_true, decide_eq_true_eq] at h; exact h.1
    generalize hkk : (Ky.mk c s n al sh ct) = k at *
    have hv : k.v = .agg #[.int .i64 c, .string s, .int .i64 n, .bool al, .bool sh, .bool ct] := by rw [← hkk]; rfl
    rw [hv] at HC ⊢
    clear hv
    go_enter Try.func18, Try.ntmps18
    go_wp2_with (first | (go_at_call 16; fail))
    go_at_call 16
    refine (HC.out _).mono ?_
    rintro e w1 ⟨rfl, hb⟩
    have hNB : NB w k w1 := by
      refine ⟨?_, ?_⟩
      · rw [← hkk]; exact (hb.block _ (by simp)).trans (heap_alloc_new w _)
      · exact ((Below.refl w.heap.size w).alloc (Nat.le_refl _) _).trans (below_le hb (by simp))
    have HNB := Lib.hid hNB
    have HCL := Lib.hid (show ∀ w1', NB w k w1' → w1'.cell? ⟨w.heap.size, 0, none⟩ = some (.int .i64 c) ∧ w1'.cell? ⟨w.heap.size, 1, none⟩ = some (.string s) ∧ w1'.cell? ⟨w.heap.size, 2, none⟩ = some (.int .i64 n) ∧ w1'.cell? ⟨w.heap.size, 3, none⟩ = some (.bool al) ∧ w1'.cell? ⟨w.heap.size, 4, none⟩ = some (.bool sh) ∧ w1'.cell? ⟨w.heap.size, 5, none⟩ = some (.bool ct) from by rw [← hkk]; exact fun w1' h => h.cells)
    clear hNB hb
    obtain ⟨q0, q1, q2, q3, q4, q5⟩ := HCL.out _ HNB.out
    go_upto_if 8 with (fail)
    go_cut [3] (fun t wx => ∃ L : List UInt8, t = .string (mkS L) ∧ w1 = wx ∧ Hid (L = (if al then [97, 108, 116, 45] else [])))
    case first =>
      cases al
      · go_wp2_with (fail)
        go_meet
        exact ⟨[], rfl, rfl, Lib.hid (by simp)⟩
      · go_wp2_with (fail)
        go_meet
        exact ⟨_, congrArg Value.string (mkS_app [] _), rfl, Lib.hid (by simp)⟩
    case rest =>
      obtain ⟨L8, rfl, rfl, HL8⟩ := hcut
      have hz8 : (mkS L8).size ≤ 20 := by
        show L8.length ≤ 20
        rw [HL8.out]
        cases al <;> cases ct <;> cases sh <;> decide
      go_upto_if 12 with (fail)
      go_cut [3] (fun t wx => ∃ L : List UInt8, t = .string (mkS L) ∧ w1 = wx ∧ Hid (L = (if al then [97, 108, 116, 45] else []) ++ (if ct then [99, 116, 108, 45] else [])))
      case first =>
        cases ct
        · go_wp2_with (fail)
          go_meet
          exact ⟨_, rfl, rfl, Lib.hid (by simp [HL8.out])⟩
        · go_wp2_with (fail)
          go_meet
          exact ⟨_, congrArg Value.string (mkS_app _ _), rfl, Lib.hid (by simp [HL8.out])⟩
      case rest =>
        obtain ⟨L12, rfl, rfl, HL12⟩ := hcut
        have hz12 : (mkS L12).size ≤ 20 := by
          show L12.length ≤ 20
          rw [HL12.out]
          cases al <;> cases ct <;> cases sh <;> decide
        go_upto_if 16 with (fail)
        go_cut [3] (fun t wx => ∃ L : List UInt8, t = .string (mkS L) ∧ w1 = wx ∧ Hid (L = (if al then [97, 108, 116, 45] else []) ++ (if ct then [99, 116, 108, 45] else []) ++ (if sh then [115, 104, 105, 102, 116, 45] else [])))
        case first =>
          cases sh
          · go_wp2_with (fail)
            go_meet
            exact ⟨_, rfl, rfl, Lib.hid (by simp [HL12.out])⟩
          · go_wp2_with (fail)
            go_meet
            exact ⟨_, congrArg Value.string (mkS_app _ _), rfl, Lib.hid (by simp [HL12.out])⟩
        case rest =>
          obtain ⟨L16, rfl, rfl, HL16⟩ := hcut
          have hz16 : (mkS L16).size ≤ 20 := by
            show L16.length ≤ 20
            rw [HL16.out]
            cases al <;> cases ct <;> cases sh <;> decide
          have HCC := Lib.hid hc18
          have hcs : (codeOf c).size ≤ 9 := codeOf_size c
          clear hc18 q3 q4 q5
          go_wp2_with (first | (go_at_call 47; fail))
          go_at_call 47
          refine (wcodeR c HCC.out _).mono ?_
          rintro e w2 ⟨rfl, h2⟩
          have H2 := Lib.hid (HNB.out.kept h2)
          clear h2 q0 q1 q2
          obtain ⟨q0, q1, q2, q3, _, _⟩ := HCL.out _ H2.out
          have hs0 : s.size ≤ 65536 := by have h := HOK.out; rw [← hkk] at h; simp only [Ky.ok, Bool.and_eq_true] at h; exact okS_size h.2.1
          have HNM := Lib.hid (show k.name = (L16 ++ (codeOf c).data.toList) ++ tailL k from by rw [Ky.name, HOK.out, HL16.out, ← hkk]; simp [preL])
          have hcc := mkS_app L16 (codeOf c)
          have hzc : (mkS (L16 ++ (codeOf c).data.toList)).size ≤ 29 := by rw [← hcc, ByteArray.size_append]; omega
          by_cases h1 : c = 1
          · subst h1
            cases al
            · go_wp2
              go_ret
              refine ⟨?_, H2.out.bel⟩
              rw [HNM.out, ← hkk]
              exact congrArg (fun x => Ending.returned (.string x)) (ByteArray.ext (by simp [mkS, tailL]))
            · go_wp2
              go_ret
              refine ⟨?_, H2.out.bel⟩
              rw [HNM.out, ← hkk]
              exact congrArg (fun x => Ending.returned (.string x)) (ByteArray.ext (by simp [mkS, tailL]))
          by_cases h2 : c = 17
          · subst h2
            go_wp2
            go_ret
            refine ⟨?_, H2.out.bel⟩
            rw [HNM.out, ← hkk]
            exact congrArg (fun x => Ending.returned (.string x)) (ByteArray.ext (by simp [mkS, tailL]))
          by_cases h3 : c = 18
          · subst h3
            have hn : 1 ≤ n ∧ n ≤ 12 := by have h := HOK.out; rw [← hkk] at h; simp [Ky.ok, okN] at h; omega
            have HNN := Lib.hid hn
            have hns := numS_size n
            clear hn
            go_wp2_with (first | (go_at_call 48; fail))
            go_at_call 48
            refine (wdigits n HNN.out _).mono ?_
            rintro e w3 ⟨rfl, h3⟩
            have H3 := Lib.hid (H2.out.kept h3)
            clear h3
            go_wp2
            go_ret
            refine ⟨?_, H3.out.bel⟩
            rw [HNM.out, ← hkk]
            exact congrArg (fun x => Ending.returned (.string x)) (ByteArray.ext (by simp [mkS, tailL]))
          · go_wp2
            go_ret
            refine ⟨?_, H2.out.bel⟩
            rw [HNM.out, ← hkk]
            exact congrArg (fun x => Ending.returned (.string x)) (ByteArray.ext (by simp [mkS, tailL, h1, h2, h3]))
end Go.Proofs.Ythkcfdnenbboaaa
