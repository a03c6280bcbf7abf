/- Walk: Key of the reference; and what is to be shown of names, in plain terms. -/
import Derived.Test.YthkcfdnenbboaaaK13
namespace Go.Proofs.Ythkcfdnenbboaaa
open Go.RowKit Go.Shelf
theorem rest_key {n : List UInt8} {w : World} {e : Ending} {w' : World} {M : Mods} (hM : M = mods n) (h : RestEnd M.al M.ct M.sh M.s w e w') : e = .returned (.tuple #[(keyK n).v, .int .i64 (keyE n)]) ∧ Below w.heap.size w w' := by
  obtain ⟨h, hb⟩ := h
  refine ⟨?_, hb⟩
  subst hM
  rcases h with ⟨c, K, h1, h2, h3, rfl⟩ | ⟨h1, rfl⟩
  · obtain ⟨p1, p2⟩ := key_some (parse_found ⟨h1, h2⟩ h3)
    rw [p1, p2]
  · obtain ⟨p1, p2⟩ := key_none (parse_missed (fun c k a b h => h1 c k a b h))
    rw [p1, p2]
set_option maxRecDepth 100000 in
set_option maxHeartbeats 4000000 in
theorem wkeyR (n : List UInt8) (hn : n.length ≤ 100000) (w : World) : Calls Try.prog 14 #[.string (mkS n)] w (KeyEnd n w) := by
  obtain ⟨M, hM⟩ : ∃ M, M = mods n := ⟨_, rfl⟩
  have HM := Lib.hid hM
  obtain ⟨al, ct, sh, s⟩ := M
  have hal : Lib.hasPrefix n pAlt = al := (congrArg Mods.al hM).symm
  obtain ⟨s1, hs1⟩ : ∃ x, x = Lib.trimPrefix n pAlt := ⟨_, rfl⟩
  have hct : Lib.hasPrefix s1 pCtl = ct := by rw [hs1]; exact (congrArg Mods.ct hM).symm
  obtain ⟨s2, hs2⟩ : ∃ x, x = Lib.trimPrefix s1 pCtl := ⟨_, rfl⟩
  have hsh : Lib.hasPrefix s2 pShift = sh := by rw [hs2, hs1]; exact (congrArg Mods.sh hM).symm
  have hs3 : Lib.trimPrefix s2 pShift = s := by rw [hs2, hs1]; exact (congrArg Mods.s hM).symm
  have hsl : s.length ≤ 100000 := by have := mods_len n; rw [← hM] at this; exact Nat.le_trans this hn
  have C1 := Lib.hid (fun W => wbeginsS n ⟨#[97, 108, 116, 45]⟩ W)
  rw [show Lib.hasPrefix n (ByteArray.mk #[97, 108, 116, 45]).data.toList = al from hal, show Lib.trimPrefix n (ByteArray.mk #[97, 108, 116, 45]).data.toList = s1 from hs1.symm] at C1
  have C2 := Lib.hid (fun W => wbeginsS s1 ⟨#[99, 116, 108, 45]⟩ W)
  rw [show Lib.hasPrefix s1 (ByteArray.mk #[99, 116, 108, 45]).data.toList = ct from hct, show Lib.trimPrefix s1 (ByteArray.mk #[99, 116, 108, 45]).data.toList = s2 from hs2.symm] at C2
  have C3 := Lib.hid (fun W => wbeginsS s2 ⟨#[115, 104, 105, 102, 116, 45]⟩ W)
  rw [show Lib.hasPrefix s2 (ByteArray.mk #[115, 104, 105, 102, 116, 45]).data.toList = sh from hsh, show Lib.trimPrefix s2 (ByteArray.mk #[115, 104, 105, 102, 116, 45]).data.toList = s from hs3] at C3
  have C4 := Lib.hid (fun W => wrest ⟨0, ⟨#[]⟩, 0, al, sh, ct⟩ s hsl W)
  clear hal hs1 hct hs2 hsh hs3 hM hsl hn
  go_enter Try.func14, Try.ntmps14
  go_wp2_with (first | (go_at_call 39; fail))
  go_at_call 39
  refine (C1.out _).mono ?_
  rintro e w1 ⟨rfl, rfl⟩
  go_wp2_with (first | (go_at_call 39; fail))
  go_at_call 39
  refine (C2.out _).mono ?_
  rintro e w1 ⟨rfl, rfl⟩
  go_wp2_with (first | (go_at_call 39; fail))
  go_at_call 39
  refine (C3.out _).mono ?_
  rintro e w1 ⟨rfl, rfl⟩
  go_wp2_with (first | (go_at_call 40; fail))
  go_at_call 40
  refine (C4.out _).mono ?_
  intro e w1 hr
  obtain ⟨rfl, hb⟩ := rest_key HM.out hr
  have H := Lib.hid ((ks_at w ⟨0, ⟨#[]⟩, 0, al, sh, ct⟩).kept hb)
  clear hb hr
  obtain ⟨d0, d1, d2, d3, d4, d5, df, dl⟩ := H.out.res.get
  unfold Ky.v
  go_wp2_with (fail)
  refine bodyPost_ret (results_cell_tmp rfl _ _ w.heap.size 27 (kyCells (keyK n)) (0, 0) _ rfl (H.out.res.stored (keyK n)) Try.underlying27 rfl (by kernel_rfl)) rfl ?_
  exact ⟨rfl, below_stored H.out.bel (Nat.le_refl _)⟩
/-- A key that may be, is found by its name, but for its text where its name leaves that out. -/
theorem mods_name (k : Ky) (h : k.ok = true) : mods k.name = ⟨k.alt, k.ctl, k.shift, (codeOf k.code).data.toList ++ tailL k⟩ := by
  obtain ⟨_, _, c1, c2, _⟩ := ok_num h
  rw [Ky.name, h, if_pos rfl]
  obtain ⟨c, s, n, al, sh, ct⟩ := k
  simp only [] at *
  generalize tailL ⟨c, s, n, al, sh, ct⟩ = T
  clear h
  have hc := c18 ⟨c1, c2⟩
  cases al <;> cases ct <;> cases sh <;> rcases hc with q | q | q | q | q | q | q | q | q | q | q | q | q | q | q | q | q | q <;> subst q <;> rfl
def Ky.plain (k : Ky) : Ky := { k with s := if (k.code = 1 ∧ k.alt = true) ∨ k.code = 17 then k.s else ⟨#[]⟩ }
theorem okS_empty {c : Int} (h : c ≠ 17) : okS c ⟨#[]⟩ = true := by
  unfold okS
  rw [if_neg h]
  split
  · decide
  · rw [ByteArray.toList_eq]; rfl
theorem plain_ok {k : Ky} (h : k.ok = true) : k.plain.ok = true := by
  obtain ⟨h1, h2, c1, c2, h3⟩ := ok_num h
  have h4 : okN k.code k.n = true := by
    have h4 := h
    simp only [Ky.ok, Bool.and_eq_true] at h4
    exact h4.2.2
  have h5 : okS k.plain.code k.plain.s = true := by
    show okS k.code (if (k.code = 1 ∧ k.alt = true) ∨ k.code = 17 then k.s else ⟨#[]⟩) = true
    split
    · exact h3
    · rename_i q
      exact okS_empty (fun e => q (.inr e))
  have h6 : (decide (1 ≤ k.code) && decide (k.code ≤ 18)) = true := by simp; omega
  show ((decide (1 ≤ k.code) && decide (k.code ≤ 18)) && (okS k.plain.code k.plain.s && okN k.code k.n)) = true
  rw [h6, h5, h4]; rfl
theorem plain_name {k : Ky} (h : k.ok = true) : k.plain.name = k.name := by
  rw [Ky.name, Ky.name, h, plain_ok h, if_pos rfl, if_pos rfl]
  have : tailL k.plain = tailL k := by
    unfold tailL Ky.plain
    simp only []
    split
    · rename_i q
      split
      · rename_i q2; rw [if_pos (.inl ⟨q, q2⟩)]
      · rfl
    · split
      · rename_i q; rw [if_pos (.inr q)]
      · rfl
  rw [this]; rfl
theorem key_name {k : Ky} (h : k.ok = true) : keyK k.name = k.plain ∧ keyE k.name = 0 := by
  refine key_some (parse_found (c := k.code) (by obtain ⟨_, _, c1, c2, _⟩ := ok_num h; exact ⟨c1, c2⟩) ⟨?_, plain_ok h⟩)
  rw [mods_name k h]
  simp only []
  unfold candR
  rw [if_pos (pre_app _ _), drop_code]
  simp only []
  obtain ⟨h1, h2, c1, c2, h3⟩ := ok_num h
  obtain ⟨c, s, n, al, sh, ct⟩ := k
  simp only [] at *
  by_cases q1 : c = 1 ∧ al = true
  · obtain ⟨rfl, rfl⟩ := q1
    have := h2 (by decide)
    subst this
    simp [tailL, Ky.plain, mkS, Lib.hasPrefix]
  · rw [if_neg q1]
    by_cases q2 : c = 17
    · subst q2
      have := h2 (by decide)
      subst this
      simp [tailL, Ky.plain, mkS]
    · rw [if_neg q2]
      have hp : ¬ ((c = 1 ∧ al = true) ∨ c = 17) := by rintro (q | q); exact q1 q; exact q2 q
      by_cases q3 : c = 18
      · subst q3
        obtain ⟨a, b⟩ := h1 rfl
        obtain ⟨m, rfl⟩ : ∃ m : Nat, n = m := ⟨n.toNat, by omega⟩
        simp [tailL, Ky.plain, numOf_num (n := m) (by omega)]
      · have := h2 q3
        subst this
        have e1 : tailL ⟨c, s, 0, al, sh, ct⟩ = [] := by
          simp only [tailL, q2, q3, if_false]
          by_cases q : c = 1
          · cases al
            · simp
            · exact absurd ⟨q, rfl⟩ q1
          · simp [q]
        rw [e1, if_neg q3]
        simp [Ky.plain, hp]
end Go.Proofs.Ythkcfdnenbboaaa
