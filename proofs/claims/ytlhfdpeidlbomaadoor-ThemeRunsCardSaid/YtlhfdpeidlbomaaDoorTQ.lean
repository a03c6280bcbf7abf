/- Plain law: what is printed reads back; and the walk of the law ThemeTexts. -/
import Derived.Test.YtlhfdpeidlbomaaDoorTP
namespace Go.Proofs.YtlhfdpeidlbomaaDoor
open Go.RowKit Go.Shelf
set_option maxRecDepth 100000 in
theorem words_no10 (y : Sty) (h : y.may) : (10 : UInt8) ∉ wordsL y := by
  obtain ⟨i, hi, e⟩ := yi_all y h
  have hall : ((List.range 648).all fun i => !(wordsL (yi i)).contains 10) = true := by decide +kernel
  have := List.all_eq_true.1 hall i (List.mem_range.2 hi)
  rw [e] at this
  simpa using this
theorem prt_no (k : Nat) (h : k < 10) : (32 : UInt8) ∉ prt k ∧ (10 : UInt8) ∉ prt k := by
  rcases k10 h with e | e | e | e | e | e | e | e | e | e <;> subst e <;> decide
def lnA (ys : List Sty) (k : Nat) : Bs := prt k ++ 32 :: wordsL (nthY ys k)
theorem nthY_may {ys : List Sty} (h : ∀ y ∈ ys, y.may) (k : Nat) : (nthY ys k).may := by
  unfold nthY
  rw [List.getD_eq_getElem?_getD]
  cases e : ys[k]? with
  | none => exact sty0_may
  | some y => exact h y (List.mem_of_getElem? e)
theorem lnOf_eq {ys : List Sty} (h : ∀ y ∈ ys, y.may) (k : Nat) : lnOf ys k = lnA ys k ++ 10 :: [] := by
  unfold lnOf lnA wB
  rw [if_pos (nthY_may h k)]
  simp
theorem lnA_no {ys : List Sty} (h : ∀ y ∈ ys, y.may) (k : Nat) (hk : k < 10) : (10 : UInt8) ∉ lnA ys k := by
  have h1 := (prt_no k hk).2
  have h2 := words_no10 _ (nthY_may h k)
  unfold lnA
  simp [h1, h2]
theorem nl_prL {ys : List Sty} (h : ∀ y ∈ ys, y.may) (ks : List Nat) (hk : ∀ k ∈ ks, k < 10) : nl (prL ys ks) = ks.map (lnA ys) ++ [[]] := by
  induction ks with
  | nil => rfl
  | cons k ks ih =>
    have e : prL ys (k :: ks) = lnA ys k ++ 10 :: prL ys ks := by
      have : prL ys (k :: ks) = lnOf ys k ++ prL ys ks := by simp [prL]
      rw [this, lnOf_eq h k]
      simp
    rw [e, nl_app _ _ (lnA_no h k (hk k (by simp))), ih (fun j hj => hk j (by simp [hj]))]
    rfl
theorem lnA_is {ys : List Sty} (h : ∀ y ∈ ys, y.may) (k : Nat) (hk : k < 10) : lnB (lnA ys k) = true ∧ lnK (lnA ys k) = k ∧ lnY (lnA ys k) = nthY ys k := by
  have h1 := (prt_no k hk).1
  have hc : cut1 32 (lnA ys k) = some (prt k, wordsL (nthY ys k)) := cut1_app 32 _ _ h1
  obtain ⟨p1, p2⟩ := pl_at k hk
  obtain ⟨s1, s2, _⟩ := styS_words _ (nthY_may h k)
  unfold lnB lnK lnY lnPart lnWords
  rw [hc]
  refine ⟨?_, ?_, ?_⟩
  · simp only [p2, s1, Bool.and_true]
  · simp only [p1]; omega
  · exact s2
theorem run_prL {ys : List Sty} (h : ∀ y ∈ ys, y.may) : ∀ (ks : List Nat) (n : Nat) (zs : List Sty) (nm : List Bool), (∀ k ∈ ks, k < 10 ∧ nm.getD k false = false) → ks.Nodup →
    runL (ks.map (lnA ys) ++ [[]]) n zs nm = (some (ks.foldl (fun z k => z.set k (nthY ys k)) zs), 0)
  | [], n, zs, nm, _, _ => rfl
  | k :: ks, n, zs, nm, hk, hn => by
    obtain ⟨a1, a2, a3⟩ := lnA_is h k (hk k (by simp)).1
    have e : (k :: ks).map (lnA ys) ++ [[]] = lnA ys k :: (ks.map (lnA ys) ++ [[]]) := rfl
    rw [e, runL_cons _ _ (by simp), a2, a3, if_pos ⟨a1, (hk k (by simp)).2⟩]
    rw [run_prL h ks _ _ _ (fun j hj => ⟨(hk j (by simp [hj])).1, ?_⟩) (List.nodup_cons.1 hn).2]
    · rfl
    · have hne : k ≠ j := fun q => (List.nodup_cons.1 hn).1 (by rw [q]; exact hj)
      have := (hk j (by simp [hj])).2
      rw [List.getD_eq_getElem?_getD] at this ⊢
      rw [List.getElem?_set_ne hne]
      exact this
theorem ten_of {α : Type} {l : List α} (h : l.length = 10) : ∃ a b c d e f g i j k, l = [a, b, c, d, e, f, g, i, j, k] := by
  match l, h with
  | [a, b, c, d, e, f, g, i, j, k], _ => exact ⟨a, b, c, d, e, f, g, i, j, k, rfl⟩
theorem parse_print {ys : List Sty} (hl : ys.length = 10) (h : ∀ y ∈ ys, y.may) : parseT (printB ys) = (some ys, 0) := by
  unfold parseT printB
  rw [nl_prL h _ (fun k hk => List.mem_range.1 hk), run_prL h _ _ _ _ (fun k hk => ⟨List.mem_range.1 hk, ?_⟩) List.nodup_range]
  · obtain ⟨a, b, c, d, e, f, g, i, j, k, rfl⟩ := ten_of hl
    rfl
  · have := List.mem_range.1 hk
    rcases k10 this with e | e | e | e | e | e | e | e | e | e <;> subst e <;> rfl
theorem usual_may : ∀ y ∈ usualL, y.may := by decide
theorem parseT_ok {s : Bs} {ys : List Sty} {m : Nat} (h : parseT s = (some ys, m)) : m = 0 ∧ ys.length = 10 ∧ ∀ y ∈ ys, y.may := by
  obtain ⟨h1, h2, h3⟩ := runL_ok _ _ _ _ _ _ h
  exact ⟨h1, h2, h3 usual_may⟩
theorem printB_len (ys : List Sty) : (printB ys).length ≤ 1170 := by
  have := prL_len ys (List.range 10)
  unfold printB
  simp at this
  exact this
set_option maxRecDepth 100000 in
set_option maxHeartbeats 4000000 in
theorem texts_any (s : ByteArray) (w : World) (hs : s.size ≤ maxLen) (hm : MaxLn w) : Calls Tryd.prog 4 #[.string s] w fun e w' => e = .returned (.bool true) ∧ Below w.heap.size w w' := by
  have HM := Lib.hid hm
  have HC := Lib.hid (wcut s hs)
  have hS : (cutTo 600 s).data.toList.length ≤ 600 := cut_size 600 s
  obtain ⟨S, hSS⟩ : ∃ S, S = (cutTo 600 s).data.toList := ⟨_, rfl⟩
  have hcs : cutTo 600 s = tx S := by rw [hSS]; rfl
  rw [hcs] at HC
  rw [← hSS] at hS
  clear hSS hcs hm hs
  have HP := Lib.hid (fun W hW => wparse S (by omega) W hW)
  have HQ := Lib.hid (fun W => wparseR S (by omega) W)
  have HOK : Hid (∀ ys m, parseT S = (some ys, m) → m = 0 ∧ ys.length = 10 ∧ ∀ y ∈ ys, y.may) := Lib.hid (fun _ _ h => parseT_ok h)
  have HA := Lib.hid (fun W hW => wawake W hW)
  obtain ⟨⟨ry, rn⟩, hR⟩ : ∃ R, R = parseT S := ⟨_, rfl⟩
  rw [← hR] at HP HQ HOK
  clear hR
  unfold ParseEnd at HP
  unfold ParseREnd at HQ
  cases ry with
  | none =>
    clear HOK
    simp only [] at HP HQ
    go_enter Tryd.func4, Tryd.ntmps4
    go_wp2_with (first | (go_at_call 6; fail))
    go_at_call 6
    refine (HC.out _).mono ?_
    rintro e w1 ⟨rfl, rfl⟩
    go_wp2_with (first | (go_at_call 12; fail))
    go_at_call 12
    refine (HP.out _ HM.out).mono ?_
    rintro e w2 ⟨rfl, hb2⟩
    have HB2 := Lib.hid hb2
    clear hb2
    go_wp2_with (first | (go_at_call 13; fail))
    go_at_call 13
    refine (HQ.out _).mono ?_
    rintro e w3 ⟨rfl, hb3⟩
    have HB3 := Lib.hid (HB2.out.trans (below_le hb3 HB2.out.size))
    clear hb3
    go_wp2_with (first | (go_at_call 11; fail))
    go_at_call 11
    refine (HA.out _ (HM.out.kept HM.out.lt HB3.out)).mono ?_
    rintro e w4 ⟨rfl, hb4⟩
    have HB4 := Lib.hid (HB3.out.trans (below_le hb4 HB3.out.size))
    clear hb4
    go_wp2
    go_ret
    exact ⟨rfl, HB4.out⟩
  | some ys =>
    obtain ⟨h0, hl, hmy⟩ := HOK.out _ _ rfl
    clear HOK
    subst h0
    simp only [] at HP HQ
    have HPP : Hid (∀ W, MaxLn W → Calls Tryd.prog 12 #[.string (tx (printB ys))] W (fun e w' => ∃ b, e = .returned (.tuple #[.pointer (some ⟨b, 0, none⟩), .int .i64 0, .int .i64 0]) ∧ ThAt w' b ys ∧ W.heap.size ≤ b ∧ Below W.heap.size W w')) := Lib.hid (fun W hW => by
      have h := wparse (printB ys) (by have := printB_len ys; omega) W hW
      rw [parse_print hl hmy] at h
      exact h)
    have HPR := Lib.hid (fun b W h => wprint b ys W h)
    obtain ⟨PB, hPB⟩ : ∃ P, P = tx (printB ys) := ⟨_, rfl⟩
    rw [← hPB] at HPP HPR
    clear hPB hl hmy
    have HSM := Lib.hid (fun bt g W h1 h2 => wsame bt g ys W h1 h2)
    go_enter Tryd.func4, Tryd.ntmps4
    go_wp2_with (first | (go_at_call 6; fail))
    go_at_call 6
    refine (HC.out _).mono ?_
    rintro e w1 ⟨rfl, rfl⟩
    go_wp2_with (first | (go_at_call 12; fail))
    go_at_call 12
    refine (HP.out _ HM.out).mono ?_
    rintro e w2 ⟨bt, rfl, ht, hge, hb2⟩
    have H2 := Lib.hid (And.intro ht hb2)
    clear hb2 ht hge
    go_wp2_with (first | (go_at_call 13; fail))
    go_at_call 13
    refine (HQ.out _).mono ?_
    rintro e w3 ⟨g, rfl, hr, hge, hb3⟩
    have H3 := Lib.hid (And.intro (H2.out.1.kept H2.out.1.lt hb3) (And.intro hr (H2.out.2.trans (below_le hb3 H2.out.2.size))))
    clear hb3 hr hge H2
    go_wp2_with (first | (go_at_call 14; fail))
    go_at_call 14
    refine (HPR.out _ _ H3.out.1).mono ?_
    rintro e w4 ⟨rfl, hb4⟩
    have H4 := Lib.hid (And.intro (H3.out.1.kept H3.out.1.lt hb4) (And.intro (H3.out.2.1.kept H3.out.2.1.lt hb4) (H3.out.2.2.trans (below_le hb4 H3.out.2.2.size))))
    clear hb4 H3
    go_wp2_with (first | (go_at_call 12; fail))
    go_at_call 12
    refine (HPP.out _ (HM.out.kept HM.out.lt H4.out.2.2)).mono ?_
    rintro e w5 ⟨b2, rfl, ht, hge, hb5⟩
    have H5 := Lib.hid (And.intro (H4.out.1.kept H4.out.1.lt hb5) (And.intro (H4.out.2.1.kept H4.out.2.1.lt hb5) (And.intro (H4.out.2.2.trans (below_le hb5 H4.out.2.2.size)) ht)))
    clear hb5 H4 ht hge
    go_wp2_with (first | (go_at_call 15; fail))
    go_at_call 15
    refine (HSM.out _ _ _ H5.out.1 H5.out.2.1).mono ?_
    rintro e w6 ⟨rfl, hb6⟩
    have H6 := Lib.hid (And.intro (H5.out.2.1.kept H5.out.2.1.lt hb6) (And.intro (H5.out.2.2.1.trans (below_le hb6 H5.out.2.2.1.size)) (H5.out.2.2.2.kept H5.out.2.2.2.lt hb6)))
    clear hb6 H5
    go_wp2_with (first | (go_at_call 15; fail))
    go_at_call 15
    refine (HSM.out _ _ _ H6.out.2.2 H6.out.1).mono ?_
    rintro e w7 ⟨rfl, hb7⟩
    have H7 := Lib.hid (H6.out.2.1.trans (below_le hb7 H6.out.2.1.size))
    clear hb7 H6
    go_wp2_with (first | (go_at_call 11; fail))
    go_at_call 11
    refine (HA.out _ (HM.out.kept HM.out.lt H7.out)).mono ?_
    rintro e w8 ⟨rfl, hb8⟩
    have HB8 := Lib.hid (H7.out.trans (below_le hb8 H7.out.size))
    clear hb8
    go_wp2
    go_ret
    exact ⟨rfl, HB8.out⟩
end Go.Proofs.YtlhfdpeidlbomaaDoor
