/- Walk: Name of the program. -/
import Derived.Test.YthkcfdnenbboaaaK6
namespace Go.Proofs.Ythkcfdnenbboaaa
open Go.RowKit Go.Shelf
theorem codeOf_size (c : Int) : (codeOf c).size ≤ 9 := by
  by_cases h : 1 ≤ c ∧ c ≤ 18
  · rcases c18 h with h | h | h | h | h | h | h | h | h | h | h | h | h | h | h | h | h | h <;> subst h <;> decide
  · have e : codeOf c = ⟨#[]⟩ := nthS_out (by have : codesL.length = 18 := rfl; omega)
    rw [e]; decide
theorem NS.done {w : World} {b : Nat} {k : Ky} {l : List UInt8} {w1 : World} (h : NS w b k l w1) (hl : l = k.name) :
    Calls Try.prog 46 #[.pointer (some ⟨b, 0, none⟩)] w1 fun e w' => e = .returned (.string ⟨k.name.toArray⟩) ∧ Below w.heap.size w w' := by
  subst hl
  refine (Try.Builder_String_any _ b _ w1 h.bld h.len).mono ?_
  rintro e w' ⟨rfl, hb⟩
  exact ⟨rfl, h.bel.trans (below_le hb (by omega))⟩
theorem numS_size (n : Int) : (numS n).size ≤ 2 := by
  unfold numS numN
  split <;> simp [strOfNums, ByteArray.size]
theorem okS_size {c : Int} {s : ByteArray} (h : okS c s = true) : s.size ≤ 65536 := by
  unfold okS at h
  split at h
  · simpa using h
  · split at h
    · by_cases h1 : s.size = 1
      · omega
      · rw [signB_not h1] at h; simp at h
    · have e : s.toList.length = s.size := by rw [ByteArray.toList_eq]; rfl
      have h2 : s.toList = [] := by simpa using h
      rw [h2] at e
      simp at e
      omega
theorem keep10 {W W' : World} {x : Nat} {v : Value} (hx : x < W.heap.size) (q : W.cell? ⟨x, 0, none⟩ = some v) (h : Below W.heap.size W W') : Below W.heap.size W W' ∧ W'.cell? ⟨x, 0, none⟩ = some v :=
  ⟨h, (h.cell (p := ⟨x, 0, none⟩) hx).trans q⟩
theorem bld_base {T e : TypeId} {B B' b : Nat} {bs : List Value} {w : World} (hB : B' ≤ B) (h : Lib.IsBuilder T e B b bs w) : Lib.IsBuilder T e B' b bs w := by
  rcases h with h | h
  · obtain ⟨h1, v, h2, h3, h4⟩ := h
    exact Or.inl ⟨by omega, v, h2, ⟨h3.1, h3.2.elim Or.inl (fun ⟨g, cap, cur, hv, hg, r⟩ => Or.inr ⟨g, cap, cur, hv, Nat.le_trans hB hg, r⟩)⟩, h4⟩
  · obtain ⟨h1, v, h2, h3, h4⟩ := h
    exact Or.inr ⟨by omega, v, h2, ⟨h3.1, h3.2.elim Or.inl (fun ⟨g, cap, cur, hv, hg, r⟩ => Or.inr ⟨g, cap, cur, hv, Nat.le_trans hB hg, r⟩)⟩, h4⟩
set_option maxRecDepth 100000 in
set_option maxHeartbeats 2000000 in
theorem wname (k : Ky) (hk : k.In) (w : World) : Calls Try.prog 17 #[k.v] w fun e w' => e = .returned (.string ⟨k.name.toArray⟩) ∧ Below w.heap.size w w' := by
  cases hok : k.ok with
  | false =>
    have e0 : k.name = [] := by rw [Ky.name, hok]; rfl
    have e1 : k.err = 80 := by rw [Ky.err, hok]; rfl
    rw [e0]
    have hC := fun W => wcheck k hk W
    rw [e1] at hC
    have HC := Lib.hid hC
    clear hC hok e0 e1 hk
    obtain ⟨c, s, n, al, sh, ct⟩ := k
    unfold Ky.v at HC ⊢
    go_enter Try.func17, Try.ntmps17
    go_wp2_with (first | (go_at_call 15; fail))
    go_at_call 15
    refine (HC.out _).mono ?_
    rintro e w1 ⟨rfl, hb⟩
    have HB := Lib.hid (((Below.refl w.heap.size w).alloc (Nat.le_refl _) _).trans (below_le hb (by simp)))
    clear hb
    go_wp2
    go_ret
    exact ⟨rfl, HB.out⟩
  | true =>
    have e1 : k.err = 0 := by rw [Ky.err, hok]; rfl
    have hC := fun W => wcheck k hk W
    rw [e1] at hC
    have HC := Lib.hid hC
    have HK := Lib.hid hk
    have HOK := Lib.hid hok
    clear hC hok e1 hk
    obtain ⟨c, s, n, al, sh, ct⟩ := k
    have hc18 : 1 ≤ c ∧ c ≤ 18 := by have h := HOK.out; simp only [Ky.ok, Bool.and_eq_true, decide_eq_true_eq] at h; exact h.1
    obtain ⟨kk, rfl⟩ : ∃ kk : Nat, c = (kk : Int) + 1 := ⟨(c - 1).toNat, by omega⟩
    generalize hkk : (Ky.mk ((kk : Int) + 1) s n al sh ct) = k at *
    have hv : k.v = .agg #[.int .i64 ((kk : Int) + 1), .string s, .int .i64 n, .bool al, .bool sh, .bool ct] := by rw [← hkk]; rfl
    rw [hv] at HC ⊢
    clear hv
    go_enter Try.func17, Try.ntmps17
    go_wp2_with (go_at_call 15; refine (HC.out _).mono ?_)
    rintro e w1 ⟨rfl, hb⟩
    have hbx : w1.heap[w.heap.size]? = some (.cells #[.int .i64 ((kk : Int) + 1), .string s, .int .i64 n, .bool al, .bool sh, .bool ct] 27 (0, 0)) := (hb.block _ (by simp)).trans (heap_alloc_new w _)
    have hlt : w.heap.size < w1.heap.size := (Array.getElem?_eq_some_iff.1 hbx).1
    have hNS : NS w w1.heap.size k [] (w1.alloc (.cells #[.pointer none, .slice none 0 0] 78)) := by
      refine ⟨?_, ?_, ?_, ?_⟩
      · rw [← hkk]; exact (heap_alloc_old w1 _ hlt).trans hbx
      · exact bld_base (Nat.succ_le_of_lt hlt) (Lib.fresh_isBuilder 78 5 w1)
      · exact (((Below.refl w.heap.size w).alloc (Nat.le_refl _) _).trans (below_le hb (by simp))).alloc (by omega) _
      · simp; omega
    have v0 : w1.cell? ⟨w.heap.size, 0, none⟩ = some (.int .i64 ((kk : Int) + 1)) := by simp [World.cell?, hbx]
    have v3 : w1.cell? ⟨w.heap.size, 3, none⟩ = some (.bool al) := by simp [World.cell?, hbx]
    have HNS := Lib.hid hNS
    have HCL := Lib.hid (show ∀ l w1', NS w w1.heap.size k l w1' → w1'.cell? ⟨w.heap.size, 0, none⟩ = some (.int .i64 ((kk : Int) + 1)) ∧ w1'.cell? ⟨w.heap.size, 1, none⟩ = some (.string s) ∧ w1'.cell? ⟨w.heap.size, 2, none⟩ = some (.int .i64 n) ∧ w1'.cell? ⟨w.heap.size, 3, none⟩ = some (.bool al) ∧ w1'.cell? ⟨w.heap.size, 4, none⟩ = some (.bool sh) ∧ w1'.cell? ⟨w.heap.size, 5, none⟩ = some (.bool ct) from by rw [← hkk]; exact fun l w1' h => h.cells)
    clear hNS hbx hb
    have HQ := HCL.out _ _ HNS.out
    have q3 := HQ.2.2.2.1
    clear HQ
    go_upto_if 8 with (fail)
    go_cut [] (fun wx => Hid (NS w w1.heap.size k ((if al then [97, 108, 116, 45] else [])) wx))
    case first =>
      cases al
      · go_wp2_with (fail)
        go_meet
        exact Lib.hid (by simpa using HNS.out)
      · go_wp2_with (first | (go_at_call 43; fail))
        go_at_call 43
        refine (HNS.out.write _ (by decide)).mono ?_
        rintro e w2 ⟨rfl, h2⟩
        have H2 := Lib.hid h2
        clear h2
        go_wp2_with (fail)
        go_meet
        exact Lib.hid (by simpa using H2.out)
    case rest =>
      clear HNS q3
      have HNS := hcut
      clear hcut
      have HQ := HCL.out _ _ HNS.out
      have q5 := HQ.2.2.2.2.2
      clear HQ
      go_upto_if 11 with (fail)
      go_cut [] (fun wx => Hid (NS w w1.heap.size k ((if al then [97, 108, 116, 45] else []) ++ (if ct then [99, 116, 108, 45] else [])) wx))
      case first =>
        cases ct
        · go_wp2_with (fail)
          go_meet
          exact Lib.hid (by simpa using HNS.out)
        · go_wp2_with (first | (go_at_call 43; fail))
          go_at_call 43
          refine (HNS.out.write _ (by cases al <;> decide)).mono ?_
          rintro e w2 ⟨rfl, h2⟩
          have H2 := Lib.hid h2
          clear h2
          go_wp2_with (fail)
          go_meet
          exact Lib.hid (by simpa using H2.out)
      case rest =>
        clear HNS q5
        have HNS := hcut
        clear hcut
        have HQ := HCL.out _ _ HNS.out
        have q4 := HQ.2.2.2.2.1
        clear HQ
        go_upto_if 14 with (fail)
        go_cut [] (fun wx => Hid (NS w w1.heap.size k ((if al then [97, 108, 116, 45] else []) ++ (if ct then [99, 116, 108, 45] else []) ++ (if sh then [115, 104, 105, 102, 116, 45] else [])) wx))
        case first =>
          cases sh
          · go_wp2_with (fail)
            go_meet
            exact Lib.hid (by simpa using HNS.out)
          · go_wp2_with (first | (go_at_call 43; fail))
            go_at_call 43
            refine (HNS.out.write _ (by cases al <;> cases ct <;> decide)).mono ?_
            rintro e w2 ⟨rfl, h2⟩
            have H2 := Lib.hid h2
            clear h2
            go_wp2_with (fail)
            go_meet
            exact Lib.hid (by simpa using H2.out)
        case rest =>
          clear HNS q4
          have HNS := hcut
          clear hcut
          have HQ := HCL.out _ _ HNS.out
          have q0 := HQ.1
          clear HQ
          go_upto_region 10 with (fail)
          go_cut [] (fun wx => Hid (NS w w1.heap.size k ((if al then [97, 108, 116, 45] else []) ++ (if ct then [99, 116, 108, 45] else []) ++ (if sh then [115, 104, 105, 102, 116, 45] else []) ++ (codeOf ((kk : Int) + 1)).data.toList) wx))
          case first =>
            have hkl : kk < codesL.length := by have : codesL.length = 18 := rfl; omega
            have hr : IntKind.i64.wrap ((kk : Int) + 1 - 1) = kk := (IntWalk.i64_in _ (by omega)).trans (by omega)
            have hr2 : IntKind.i64.wrap (kk : Int) = kk := IntWalk.i64_in _ (by omega)
            have hb1 : (0 : Int) ≤ (kk : Int) := by omega
            have hb2 : (kk : Int) < 18 := by omega
            have hlt : w.heap.size < wc.heap.size := (Array.getElem?_eq_some_iff.1 HNS.out.box).1
            have hpl : ((if al then [97, 108, 116, 45] else []) ++ (if ct then [99, 116, 108, 45] else []) ++ (if sh then [115, 104, 105, 102, 116, 45] else []) : List UInt8).length ≤ 14 := by cases al <;> cases ct <;> cases sh <;> decide
            have hcl : (codeOf ((kk : Int) + 1)).size ≤ 9 := codeOf_size _
            have HPL := Lib.hid (show ((if al then [97, 108, 116, 45] else []) ++ (if ct then [99, 116, 108, 45] else []) ++ (if sh then [115, 104, 105, 102, 116, 45] else []) : List UInt8).length + (codeOf ((kk : Int) + 1)).size ≤ 140737488355328 by omega)
            have hl18 : codesL.length = 18 := rfl
            clear hpl hcl
            go_region_with (first
              | (go_at_call 44; refine (wcodes _).mono ?_; rintro e w2 hm; have HB2 := Lib.hid ((Below.refl wc.heap.size wc).drew.trans hm.below); have hc2 : w2.cell? ⟨wc.heap.size, kk, none⟩ = some (.string (codeOf ((kk : Int) + 1))) := hm.cells kk hkl; have he := hm.1; clear hm; rw [hl18] at he; subst he; have q2 := (HB2.out.cell (p := ⟨w.heap.size, 0, none⟩) hlt).trans q0)
              | (go_at_call 43; refine ((HNS.out.kept HB2.out).write _ HPL.out).mono ?_; rintro e w3 ⟨rfl, h3⟩; have H3 := Lib.hid h3; clear h3))
            all_goals (go_wp2_with (fail); go_meet; exact H3)
          case rest =>
            clear HNS q0
            have HNS := hcut
            clear hcut
            have hpl : ((if al then [97, 108, 116, 45] else []) ++ (if ct then [99, 116, 108, 45] else []) ++ (if sh then [115, 104, 105, 102, 116, 45] else []) : List UInt8).length ≤ 14 := by cases al <;> cases ct <;> cases sh <;> decide
            have hcl : (codeOf ((kk : Int) + 1)).size ≤ 9 := codeOf_size _
            have hsz : ((if al then [97, 108, 116, 45] else []) ++ (if ct then [99, 116, 108, 45] else []) ++ (if sh then [115, 104, 105, 102, 116, 45] else []) ++ (codeOf ((kk : Int) + 1)).data.toList : List UInt8).length ≤ 23 := by rw [List.length_append]; have e : (codeOf ((kk : Int) + 1)).data.toList.length = (codeOf ((kk : Int) + 1)).size := rfl; omega
            have hname : k.name = ((if al then [97, 108, 116, 45] else []) ++ (if ct then [99, 116, 108, 45] else []) ++ (if sh then [115, 104, 105, 102, 116, 45] else []) ++ (codeOf ((kk : Int) + 1)).data.toList) ++ tailL k := by
              rw [Ky.name, HOK.out]
              rw [← hkk]
              simp [preL]
            clear hpl hcl
            generalize ((if al then [97, 108, 116, 45] else []) ++ (if ct then [99, 116, 108, 45] else []) ++ (if sh then [115, 104, 105, 102, 116, 45] else []) ++ (codeOf ((kk : Int) + 1)).data.toList : List UInt8) = L at *
            have HSZ := Lib.hid hsz
            have HNM := Lib.hid hname
            have HS := Lib.hid (show s.size ≤ 65536 from by have h := HOK.out; rw [← hkk] at h; simp only [Ky.ok, Bool.and_eq_true] at h; exact okS_size h.2.1)
            clear hsz hname
            have HQ := HCL.out _ _ HNS.out
            obtain ⟨q0, q1, q2, q3, _, _⟩ := HQ
            by_cases h1 : kk = 0
            · subst h1
              cases al
              · go_wp2_with (first | (go_at_call 46; fail))
                go_at_call 46
                refine (HNS.out.done (by rw [HNM.out, ← hkk]; simp [tailL])).mono ?_
                rintro e w9 ⟨rfl, h9⟩
                have H9 := Lib.hid h9
                clear h9
                go_wp2
                go_ret
                exact ⟨rfl, H9.out⟩
              · go_wp2_with (first | (go_at_call 43; fail))
                go_at_call 43
                refine (HNS.out.write _ (by have := HSZ.out; show L.length + 1 ≤ 140737488355328; omega)).mono ?_
                rintro e w2 ⟨rfl, h2⟩
                have H2 := Lib.hid h2
                clear h2
                obtain ⟨r0_2, r1_2, r2_2, r3_2, _, _⟩ := HCL.out _ _ H2.out
                go_wp2_with (first | (go_at_call 43; fail))
                go_at_call 43
                refine (H2.out.write _ (by have := HSZ.out; have := HS.out; simp; omega)).mono ?_
                rintro e w3 ⟨rfl, h3⟩
                have H3 := Lib.hid h3
                clear h3
                obtain ⟨r0_3, r1_3, r2_3, r3_3, _, _⟩ := HCL.out _ _ H3.out
                go_wp2_with (first | (go_at_call 46; fail))
                go_at_call 46
                refine (H3.out.done (by rw [HNM.out, ← hkk]; simp [tailL])).mono ?_
                rintro e w9 ⟨rfl, h9⟩
                have H9 := Lib.hid h9
                clear h9
                go_wp2
                go_ret
                exact ⟨rfl, H9.out⟩
            by_cases h2 : kk = 16
            · subst h2
              go_wp2_with (first | (go_at_call 43; fail))
              go_at_call 43
              refine (HNS.out.write _ (by have := HSZ.out; have := HS.out; omega)).mono ?_
              rintro e w3 ⟨rfl, h3⟩
              have H3 := Lib.hid h3
              clear h3
              obtain ⟨r0_3, r1_3, r2_3, r3_3, _, _⟩ := HCL.out _ _ H3.out
              go_wp2_with (first | (go_at_call 46; fail))
              go_at_call 46
              refine (H3.out.done (by rw [HNM.out, ← hkk]; simp [tailL])).mono ?_
              rintro e w9 ⟨rfl, h9⟩
              have H9 := Lib.hid h9
              clear h9
              go_wp2
              go_ret
              exact ⟨rfl, H9.out⟩
            by_cases h3 : kk = 17
            · subst h3
              have hn : 1 ≤ n ∧ n ≤ 12 := by have h := HOK.out; rw [← hkk] at h; simp [Ky.ok, okN] at h; omega
              have HNN := Lib.hid hn
              clear hn
              go_wp2_with (first | (go_at_call 45; fail))
              go_at_call 45
              refine (wtwelve n HNN.out _).mono ?_
              rintro e w2 ⟨rfl, h2⟩
              have H2 := Lib.hid (HNS.out.kept h2)
              clear h2
              go_wp2_with (first | (go_at_call 43; fail))
              go_at_call 43
              refine (H2.out.write _ (by have := HSZ.out; have := numS_size n; omega)).mono ?_
              rintro e w3 ⟨rfl, h3⟩
              have H3 := Lib.hid h3
              clear h3
              obtain ⟨r0_3, r1_3, r2_3, r3_3, _, _⟩ := HCL.out _ _ H3.out
              go_wp2_with (first | (go_at_call 46; fail))
              go_at_call 46
              refine (H3.out.done (by rw [HNM.out, ← hkk]; simp [tailL])).mono ?_
              rintro e w9 ⟨rfl, h9⟩
              have H9 := Lib.hid h9
              clear h9
              go_wp2
              go_ret
              exact ⟨rfl, H9.out⟩
            · have hn1 : ¬ ((kk : Int) + 1 = 1) := by omega
              have hn2 : ¬ ((kk : Int) + 1 = 17) := by omega
              have hn3 : ¬ ((kk : Int) + 1 = 18) := by omega
              go_wp2_with (first | (go_at_call 46; fail))
              go_at_call 46
              refine (HNS.out.done (by rw [HNM.out, ← hkk]; simp [tailL, hn1, hn2, hn3])).mono ?_
              rintro e w9 ⟨rfl, h9⟩
              have H9 := Lib.hid h9
              clear h9
              go_wp2
              go_ret
              exact ⟨rfl, H9.out⟩
end Go.Proofs.Ythkcfdnenbboaaa
