/- How many names are bound; walk: Fork. -/
import Derived.Test.YthkcfdnenbboaaaK24
namespace Go.Proofs.Ythkcfdnenbboaaa
open Go.RowKit Go.Shelf Go.Maps Go.Sort Go.ChangeMaps
theorem MapF.strs {w : World} {mb m c : Nat} {f : Bnd} (h : MapF w mb m c f) : ∃ es : List (List UInt8), es.Nodup ∧ (∀ x, x ∈ es ↔ f.has (mkS x) = true) ∧ es.length = c := by
  obtain ⟨D, n, d1, hown, d3, d4, d5⟩ := h
  obtain ⟨es, hD, hpw, _⟩ := hown.entries Try.law9
  obtain ⟨es', hD', hko⟩ := hown.keysOf
  obtain rfl : es = es' := by rw [hD] at hD'; simpa using hD'
  have hks : ∀ p ∈ es, ∃ x, p.1 = .string x := fun p hp => by
    obtain ⟨v, hv⟩ := hko p hp
    obtain ⟨x, _, hx, _⟩ := Maps.keyOf_str Try.underlying9 hv
    exact ⟨x, hx⟩
  have hm : ∀ x, x ∈ (es.map fun p => strOf p.1) ↔ has D (.string x) = true := fun x => by
    rw [hD, has_eq, List.any_eq_true, List.mem_map]
    constructor
    · rintro ⟨p, hp, rfl⟩
      obtain ⟨a, ha⟩ := hks p hp
      exact ⟨p, hp, by rw [ha]; simp [Lit.sameKey, strOf]⟩
    · rintro ⟨p, hp, hs⟩
      obtain ⟨a, ha⟩ := hks p hp
      rw [ha] at hs
      exact ⟨p, hp, by rw [ha]; simpa [Lit.sameKey, strOf] using hs⟩
  refine ⟨es.map fun p => strOf p.1, ?_, fun x => ?_, ?_⟩
  · refine List.pairwise_map.2 (hpw.imp_of_mem fun {p q} hp' hq' hne e => hne ?_)
    obtain ⟨a, ha⟩ := hks p hp'
    obtain ⟨b, hb⟩ := hks q hq'
    rw [ha, hb] at e ⊢
    exact congrArg _ e
  · rw [hm x, ← d4 (mkS x)]
    simp [keyL, mkS]
  · rw [List.length_map, ← d3, hD]; rfl
theorem names_nodup {ss : List (List UInt8)} {f : Bnd} (h : NamesOf f ss) : ss.Nodup := h.1.imp fun {a b} q e => by rw [e] at q; exact absurd q (List.lt_irrefl _)
theorem MapF.count {w : World} {mb m c : Nat} {f : Bnd} (h : MapF w mb m c f) {ss : List (List UInt8)} (hs : NamesOf f ss) : ss.length = c := by
  obtain ⟨es, h1, h2, h3⟩ := h.strs
  rw [← h3]
  exact ((List.perm_ext_iff_of_nodup (names_nodup hs) h1).2 fun x => by rw [hs.2, h2]).length_eq
theorem MapF.names {w : World} {mb m c : Nat} {f : Bnd} (h : MapF w mb m c f) : ∃ ss, NamesOf f ss := by
  obtain ⟨es, h1, h2, h3⟩ := h.strs
  exact ⟨_, names_of h1 h2⟩
theorem MapF.same {w w' : World} {mb mb' m m' c c' : Nat} {f : Bnd} (h : MapF w mb m c f) (h' : MapF w' mb' m' c' f) : c' = c := by
  obtain ⟨ss, hs⟩ := h.names
  rw [← h.count hs, ← h'.count hs]
theorem MapI.m_le {w : World} {b mb m m' c : Nat} {f : Bnd} (h : MapI w b mb m c f) (hm : m ≤ m') : MapI w b mb m' c f := ⟨h.cells, h.map.mono hm⟩
theorem fork_step {f g : Bnd} {left : Lit → Bool} {x : List UInt8} {a : Int} (hg : ∀ s, g s = if left (keyL s) then none else f s) (hf : f (mkS x) = some a) :
    ∀ s, g.put (mkS x) a s = if (left (keyL s) && !(keyL s).sameKey (.string x)) then none else f s := by
  intro s
  have hk : (Lit.string x) = keyL (mkS x) := by simp [keyL, mkS]
  by_cases e : s = mkS x
  · subst e
    rw [hk]
    simp [Bnd.put, hf, Lit.sameKey, keyL]
  · have hne : keyL s ≠ .string x := fun q => e (keyL_inj (q.trans hk))
    rw [sameKey_ne hne]
    simp [Bnd.put, e, hg s]
set_option maxRecDepth 100000 in
set_option maxHeartbeats 2000000 in
theorem wfork {w : World} {b mb m c : Nat} {f : Bnd} (h : MapI w b mb m c f) (hm : m ≤ 100000) : Calls Try.prog 27 #[.pointer (some ⟨b, 0, none⟩)] w fun e w' => e = .returned (.pointer (some ⟨w.heap.size + 1, 0, none⟩)) ∧ MapI w' (w.heap.size + 1) w.heap.size c c f ∧ Below w.heap.size w w' := by
  have hcell := h.get.1
  have HC := Lib.hid hcell
  have HM0 := Lib.hid h
  have hb := h.get.2.1
  have hmb := h.get.2.2.1
  clear h hcell
  go_enter Try.func27, Try.ntmps27
  go_wp2_with (first | (go_at_call 36; refine (wmade _ _ _ HC.out).mono ?_; rintro e w' ⟨rfl, rfl⟩) | (go_at_call 7; fail))
  go_at_call 7
  refine (wnew _).mono ?_
  rintro e w1 ⟨rfl, hM, hB⟩
  have HM1 := Lib.hid (HM0.out.below hB)
  obtain ⟨D, n, d1, hown, d3, d4, d5⟩ := HM1.out.map
  have HD3 := Lib.hid d3
  have HD4 := Lib.hid d4
  have HD5 := Lib.hid d5
  have hsz : Maps.size D ≤ 100000 := by have := HM1.out.map.le; omega
  have HMX := Lib.hid hM
  have HBX := Lib.hid hB
  have hz1 := hM.get.2.1
  have hcl := HM1.out.get.1
  clear d3 d4 d5 hM hB HC
  obtain ⟨r, hr⟩ : ∃ r, r = w1.heap.size := ⟨_, rfl⟩
  have hr1 : w.heap.size + 1 < r := by omega
  go_wp2_with (first
    | (at_range; refine wpList_range_own _ rfl _ 66 rfl 9 30 Try.law9 Try.underlying66 _ mb n _ rfl hown ?_; intro w0 hrg0 hg0 hs0)
    | go_in)
  rw [← hr] at hrg0 ⊢
  go_frame
  have HMY := Lib.hid (HMX.out.keep (l := []) ⟨hg0.os, hg0.tape, hg0.output, hg0.size, fun j hj _ => hg0.block j hj (by simp)⟩ List.not_mem_nil List.not_mem_nil)
  have HBY := Lib.hid (HBX.out.grown hg0 HBX.out.size (fun j hj => by cases hj))
  clear hs0 hcl hown hr
  go_loopg [] (Maps.size D) (fun gh wr => ∃ (left : Lit → Bool) (cnt m2 c2 : Nat) (g : Bnd), wr.ranges Try.prog 9 (plainElem Try.prog 30) mb r n D left cnt ∧ cnt ≤ gh ∧ m2 + cnt ≤ Maps.size D ∧ Hid (MapI wr (w.heap.size + 1) w.heap.size m2 c2 g) ∧
      Hid (∀ s, g s = if left (keyL s) then none else f s) ∧ Hid (Below w.heap.size w wr))
  case atStart =>
    refine ⟨_, _, 0, 0, noBnd, hrg0, Nat.le_refl _, by omega, HMY, Lib.hid (fun s => ?_), HBY⟩
    rw [HD4.out s]
    cases q : f s with
    | none => simp [noBnd]
    | some a => simp [noBnd, Bnd.has, q]
  case round =>
    obtain ⟨left, cnt, m2, c2, g, hrg, hcg, hmc, HM2, HG, HB2⟩ := hrel
    have hcl := HM2.out.get.1
    go_wp2_with (first
      | (at_next; refine wpList_next_ranges _ rfl _ rfl 9 Try.law9 (plainElem Try.prog 30) encStr (Value.int .i64) (fun key kl hk => by obtain ⟨x, hx, _⟩ := Maps.keyOf_str Try.underlying9 hk; exact ⟨x, hx⟩) (fun v y hv => by obtain ⟨c, rfl, _⟩ := plainElem_int_inv Try.underlying30 hv; exact ⟨c, rfl⟩) mb r n _ _ _ rfl hrg ?_ ?_)
      | go_in)
    · intro hc0 hl0
      have hgf : g = f := by
        funext s
        rw [HG.out s, hl0]
        simp
      subst hgf
      have hcc : c2 = c := HM0.out.map.same HM2.out.map
      subst hcc
      have hmm : c2 ≤ Maps.size D := by have := HM2.out.map.le; omega
      clear hrg
      go_wp2
      go_ret
      exact ⟨rfl, HM2.out.m_le (by have := HD3.out; omega), HB2.out⟩
    · intro x c' kl yd yp w2 cnt2 hkey hlk hv hat hrg2 hlt hg2 hs2 hen
      obtain ⟨x', ex, rfl, hxl⟩ := Maps.keyOf_str Try.underlying9 hkey
      obtain rfl : x = x' := encStr_inj ex
      have hf : f (mkS x) = some c' ∧ (0 ≤ c' ∧ c' ≤ 100) := by
        have hk : (Lit.string x) = keyL (mkS x) := by simp [keyL, mkS]
        have hh := has_true_of_atKey hat
        rw [hk, HD4.out] at hh
        cases q : f (mkS x) with
        | none => rw [Bnd.has, q] at hh; simp at hh
        | some a =>
          obtain ⟨ha, hz⟩ := HD5.out _ _ q
          have h1 := hat (actD 0)
          rw [hk, hz] at h1
          obtain ⟨c2, e1, e2, _⟩ := plainElem_int_inv Try.underlying30 hv
          simp only [Value.int.injEq, true_and] at e1
          subst e1
          simp only [Prod.mk.injEq] at e2
          rw [e2.1] at h1
          simp only [actD, DataW.lit.injEq, Lit.int.injEq, true_and] at h1
          rw [h1] at ha ⊢
          exact ⟨rfl, ha⟩
      have hB2 : But [r] wr w2 := (But.refl _ _).grown hg2 (fun j e => by simp at e; simp [e])
      have hM3 := HM2.out.keep hB2 (by simp; omega) (by simp; omega)
      have hx : (mkS x).size ≤ maxLen := by rw [mkS_size]; exact hxl
      obtain ⟨w3, hrun, hM4, hg4⟩ := hM3.map.put (by unfold maxLen; omega) (mkS x) hx c' hf.2
      have hT := hM3.turned hM4 hg4
      have hrg3 := hrg2.kept hg4 (by simp; omega) (by simp; omega)
      have HRG3 := Lib.hid hrg3
      have HT := Lib.hid hT
      have HF := Lib.hid hf
      have HB3 := Lib.hid ((HB2.out.trans (hB2.toBelow HB2.out.size (by simp; omega))).trans (hT.2.toBelow (by have := HB2.out.size; have := hg2.size; omega) (by simp)))
      have hcl3 := hM3.get.1
      have HEN := Lib.hid hen
      have HLT := Lib.hid hlt
      have hen' : (Instr.entry (.pointer (some ⟨r, 0, none⟩))).run Try.prog w2 = .ok (.tuple #[.string (mkS x), .int .i64 c']) w2 := hen
      clear hM3 hM4 hg4 hT hrg3 hf hs2 hcl hB2 hkey hlk hv hat hrg hrg2 hen hx hlt
      go_wp2
      go_roundg (gk - 1)
      case measure => have := HLT.out; omega
      case rel => exact ⟨_, cnt2, m2 + 1, _, _, HRG3.out, by have := HLT.out; omega, by have := HLT.out; omega, Lib.hid HT.out.1, Lib.hid (fork_step HG.out HF.out.1), HB3⟩
end Go.Proofs.Ythkcfdnenbboaaa
