/- Own texts, merged: W1, RM, T1. -/
import Derived.Laws.BytesArg
import Derived.Deep.RegionHeld3
import Derived.Test.YtfalcmbjjlgoaaaGreatDoorMT17
import Derived.Test.YtfalcmbjjlgoaaaGreatDoorMT32
import Derived.Test.YtfalcmbjjlgoaaaGreatDoorMT38
import Derived.Test.YtfalcmbjjlgoaaaGreatDoorMT41
/- Walk: the reference's whole: a number's digits. -/
namespace Go.Proofs.YtfalcmbjjlgoaaaGreatDoor
open Go.RowKit Go.Shelf Go.Lib
theorem tx_app2 (a b : Bs) : tx a ++ tx b = tx (a ++ b) := by unfold tx; apply ByteArray.ext; apply Array.ext'; simp
theorem str_dig (d : Nat) (hd : d < 10) : strOfNums [48 + (d : Int)] = tx [UInt8.ofNat (48 + d)] := by
  have : d = 0 ∨ d = 1 ∨ d = 2 ∨ d = 3 ∨ d = 4 ∨ d = 5 ∨ d = 6 ∨ d = 7 ∨ d = 8 ∨ d = 9 := by omega
  rcases this with rfl | rfl | rfl | rfl | rfl | rfl | rfl | rfl | rfl | rfl <;> rfl
theorem wrap_dig (d : Nat) (hd : d < 10) : IntKind.u8.wrap (48 + (d : Int)) = 48 + (d : Int) := by
  have : d = 0 ∨ d = 1 ∨ d = 2 ∨ d = 3 ∨ d = 4 ∨ d = 5 ∨ d = 6 ∨ d = 7 ∨ d = 8 ∨ d = 9 := by omega
  rcases this with rfl | rfl | rfl | rfl | rfl | rfl | rfl | rfl | rfl | rfl <;> decide
theorem conv_dig (W : World) (g d : Nat) (hd : d < 10) (h : W.cell? ⟨g, 0, none⟩ = some (.int .u8 (48 + (d : Int)))) : (convert 83 9 (.slice (some ⟨g, 0, none⟩) 1 1)).run Tryz.prog W = .ok (.string (tx [UInt8.ofNat (48 + d)])) W := by
  rw [← str_dig d hd]
  exact run_convert_bytes_arg W 83 5 Tryz.underlying83 Tryz.underlying5 g 0 1 1 [48 + (d : Int)] rfl (fun i hi => by
    obtain rfl : i = 0 := by omega
    simpa using h) 9 Tryz.underlying9
theorem dec_len : ∀ n k : Nat, k < 10 ^ (n + 1) → (decDigits k).length ≤ n + 1 := by
  intro n
  induction n with
  | zero => intro k h; unfold decDigits; rw [dif_pos (by omega)]; simp
  | succ n ih =>
    intro k h
    unfold decDigits
    split
    · simp
    · have := ih (k / 10) (by rw [Nat.pow_succ] at h; omega)
      simp only [List.length_append, List.length_cons, List.length_nil]
      omega
set_option maxRecDepth 100000 in
set_option maxHeartbeats 4000000 in
theorem rwhole (k : Nat) : k ≤ 999999999999999 → ∀ w : World, Calls Tryz.prog 34 #[.int .i64 k] w fun e w' => e = .returned (.string (tx (decDigits k))) ∧ Below w.heap.size w w' := by
  induction k using Nat.strongRecOn with
  | ind k ih =>
    intro hk w
    by_cases q : k < 10
    · have HD : Hid (decDigits k = [UInt8.ofNat (48 + k)]) := Lib.hid (by unfold decDigits; rw [dif_pos q])
      have hcv := conv_dig (w.alloc (.cells #[.int .u8 (48 + (k : Int))] 5)) w.heap.size k q (by have h := heap_alloc_new w (.cells #[.int .u8 (48 + (k : Int))] 5); simp only [World.cell?, h]; rfl)
      have hw : IntKind.u8.wrap (48 + (k : Int)) = 48 + (k : Int) := wrap_dig k q
      have i1 : (k : Int) < 10 := by omega
      generalize UInt8.ofNat (48 + k) = ch at HD hcv
      have HB := Lib.hid (bel1 w (.cells #[.int .u8 (48 + (k : Int))] 5))
      clear ih
      go_enter Tryz.func34, Tryz.ntmps34
      go_wp2
      go_ret
      exact ⟨by rw [HD.out]; rfl, HB.out⟩
    · have HD : Hid (decDigits k = decDigits (k / 10) ++ [UInt8.ofNat (48 + k % 10)]) := Lib.hid (by rw [decDigits, dif_neg q])
      have HIH := Lib.hid (ih (k / 10) (by omega) (by omega))
      have i1 : ¬ (k : Int) < 10 := by omega
      have hq : (k : Int).tdiv 10 = ((k / 10 : Nat) : Int) := by rw [Int.tdiv_eq_ediv_of_nonneg (by omega)]; omega
      have hr : (k : Int).tmod 10 = ((k % 10 : Nat) : Int) := by rw [Int.tmod_eq_emod_of_nonneg (by omega)]; omega
      have HM : Hid (k % 10 < 10) := Lib.hid (Nat.mod_lt _ (by omega))
      have HL := Lib.hid (dec_len 14 (k / 10) (by omega))
      have HB0 := Lib.hid (Below.refl w.heap.size w)
      have wi1 : IntKind.i64.wrap ((k / 10 : Nat) : Int) = ((k / 10 : Nat) : Int) := by rw [IntKind.wrap_i64]; omega
      have wi2 : IntKind.i64.wrap (48 + ((k % 10 : Nat) : Int)) = 48 + ((k % 10 : Nat) : Int) := by rw [IntKind.wrap_i64]; omega
      generalize k % 10 = M at hr HD HM wi2
      generalize k / 10 = V at hq HD HIH HL wi1
      have hw : IntKind.u8.wrap (48 + (M : Int)) = 48 + (M : Int) := wrap_dig M HM.out
      generalize decDigits V = D at HD HIH HL
      have HDG : Hid (∀ W g, World.cell? W ⟨g, 0, none⟩ = some (.int .u8 (48 + (M : Int))) → (convert 83 9 (.slice (some ⟨g, 0, none⟩) 1 1)).run Tryz.prog W = .ok (.string (tx [UInt8.ofNat (48 + M)])) W) := Lib.hid (fun W g h => conv_dig W g M HM.out h)
      generalize UInt8.ofNat (48 + M) = ch at HD HDG
      have HR : Hid (tx D ++ tx [ch] = tx (decDigits k)) := Lib.hid (by rw [HD.out, tx_app2])
      have zl : (tx D).size ≤ 15 := by rw [tx_size' D]; exact HL.out
      have zc : (tx [ch]).size = 1 := tx_size' _
      have zd : (9223372036854775807 < (tx D).size + 1) = False := eq_false (by omega)
      have zb : (tx D).size ≤ 9223372036854775806 := by omega
      clear ih q zl
      go_enter Tryz.func34, Tryz.ntmps34
      go_wp2_with fail
      refine wp_region_held (S := (fun _ => True)) (by as_aux_lemma => kernel_rfl) ?_
      change wpAnyH _ _ _ _ _ _ _ _ (World.drew _)
      refine wpAnyH_take (i := 0) (v := _) rfl (by as_aux_lemma => kernel_rfl) (by as_aux_lemma => kernel_rfl) (by as_aux_lemma => kernel_rfl) (fun _ _ _ h => h) (Or.inl ⟨by rfl, by intro w hSw; (try dsimp only at hSw); go_simp; try (with_reducible rfl)⟩) trivial ?_
      try simp only [Act.put, List.setIfInBounds_toArray, List.set_cons_zero, List.set_cons_succ, List.getElem_toArray, List.getElem_cons_zero]
      refine wpAnyH_take (i := 1) (v := _) rfl (by as_aux_lemma => kernel_rfl) (by as_aux_lemma => kernel_rfl) (by as_aux_lemma => kernel_rfl) (fun _ _ _ h => h) (Or.inl ⟨by rfl, by intro w hSw; (try dsimp only at hSw); go_simp; try (with_reducible rfl)⟩) trivial ?_
      try simp only [Act.put, List.setIfInBounds_toArray, List.set_cons_zero, List.set_cons_succ, List.getElem_toArray, List.getElem_cons_succ, List.getElem_cons_zero]
      refine wpAnyH_take (i := 3) (v := _) rfl (by as_aux_lemma => kernel_rfl) (by as_aux_lemma => kernel_rfl) (by as_aux_lemma => kernel_rfl) (fun _ _ _ h => h) (Or.inl ⟨by rfl, by intro w hSw; (try dsimp only at hSw); go_simp; try (with_reducible rfl)⟩) trivial ?_
      try simp only [Act.put, List.setIfInBounds_toArray, List.set_cons_zero, List.set_cons_succ, List.getElem_toArray, List.getElem_cons_succ, List.getElem_cons_zero]
      refine wpAnyH_take (i := 4) (v := _) rfl (by as_aux_lemma => kernel_rfl) (by as_aux_lemma => kernel_rfl) (by as_aux_lemma => kernel_rfl) (fun _ _ _ h => h) (Or.inl ⟨by rfl, by intro w hSw; (try dsimp only at hSw); go_simp; try (with_reducible rfl)⟩) trivial ?_
      try simp only [Act.put, List.setIfInBounds_toArray, List.set_cons_zero, List.set_cons_succ, List.getElem_toArray, List.getElem_cons_succ, List.getElem_cons_zero]
      refine wpAnyH_take (i := 5) (v := _) rfl (by as_aux_lemma => kernel_rfl) (by as_aux_lemma => kernel_rfl) (by as_aux_lemma => kernel_rfl) (fun _ _ _ h => h) (Or.inl ⟨by rfl, by intro w hSw; (try dsimp only at hSw); go_simp; try (with_reducible rfl)⟩) trivial ?_
      try simp only [Act.put, List.setIfInBounds_toArray, List.set_cons_zero, List.set_cons_succ, List.getElem_toArray, List.getElem_cons_succ, List.getElem_cons_zero]
      refine wpAnyH_take (i := 6) (v := _) rfl (by as_aux_lemma => kernel_rfl) (by as_aux_lemma => kernel_rfl) (by as_aux_lemma => kernel_rfl) (fun _ _ _ h => h) (Or.inl ⟨by rfl, by intro w hSw; (try dsimp only at hSw); go_simp; try (with_reducible rfl)⟩) trivial ?_
      try simp only [Act.put, List.setIfInBounds_toArray, List.set_cons_zero, List.set_cons_succ, List.getElem_toArray, List.getElem_cons_succ, List.getElem_cons_zero]
      refine wpAnyH_ready (rs := [2, 7]) (by as_aux_lemma => kernel_rfl) (by simp) ?_
      refine AllReadyH.cons rfl (fun K hK => ?_) (AllReadyH.cons rfl (fun K hK => ?_) AllReadyH.nil)
      · skip
        go_simp
        go_wp2_with (first | (go_at_call 34; fail))
        refine (HIH.out _).mono ?_
        rintro e w9 ⟨rfl, hb9⟩
        have HB9 : Hid (Below w.heap.size w w9) := Lib.hid (HB0.out.drew.trans (below_le hb9 HB0.out.size))
        clear hb9
        refine hK.out _ _ trivial (fun _ => ?_)
        clear hK K
        try simp only [Act.put, List.setIfInBounds_toArray, List.set_cons_zero, List.set_cons_succ, List.getElem_toArray, List.getElem_cons_succ, List.getElem_cons_zero]
        refine wpAnyH_ready (rs := [7]) (by as_aux_lemma => kernel_rfl) (by simp) ?_
        refine AllReadyH.cons rfl (fun K hK => ?_) AllReadyH.nil
        go_simp
        have HBN : Hid (Below w.heap.size w (World.alloc w9 (.cells #[.int .u8 (48 + (M : Int))] 5))) := Lib.hid (HB9.out.alloc HB9.out.size _)
        have HCN : Hid (World.cell? ((World.alloc w9 (.cells #[.int .u8 (48 + (M : Int))] 5))) ⟨w9.heap.size, 0, none⟩ = some (.int .u8 (48 + (M : Int)))) := Lib.hid (by have h := heap_alloc_new w9 (.cells #[.int .u8 (48 + (M : Int))] 5); simp only [World.cell?, h]; rfl)
        refine hK.out _ _ trivial (fun _ => ?_)
        clear hK K
        try simp only [Act.put, List.setIfInBounds_toArray, List.set_cons_zero, List.set_cons_succ, List.getElem_toArray, List.getElem_cons_succ, List.getElem_cons_zero]
        refine wpAnyH_ready (rs := [8]) (by as_aux_lemma => kernel_rfl) (by simp) ?_
        refine AllReadyH.cons rfl (fun K hK => ?_) AllReadyH.nil
        have hcv := HDG.out ((World.alloc w9 (.cells #[.int .u8 (48 + (M : Int))] 5))) w9.heap.size HCN.out
        go_simp
        refine hK.out _ _ trivial (fun _ => ?_)
        clear hK K hcv
        try simp only [Act.put, List.setIfInBounds_toArray, List.set_cons_zero, List.set_cons_succ, List.getElem_toArray, List.getElem_cons_succ, List.getElem_cons_zero]
        refine wpAnyH_ready (rs := [9]) (by as_aux_lemma => kernel_rfl) (by simp) ?_
        refine AllReadyH.cons rfl (fun K hK => ?_) AllReadyH.nil
        go_simp
        refine hK.out _ _ trivial (fun _ => ?_)
        clear hK K
        try simp only [Act.put, List.setIfInBounds_toArray, List.set_cons_zero, List.set_cons_succ, List.getElem_toArray, List.getElem_cons_succ, List.getElem_cons_zero]
        refine wpAnyH_take (i := 10) (v := _) rfl (by as_aux_lemma => kernel_rfl) (by as_aux_lemma => kernel_rfl) (by as_aux_lemma => kernel_rfl) (fun _ _ _ h => h) (Or.inl ⟨by rfl, by intro w hSw; (try dsimp only at hSw); go_simp; try (with_reducible rfl)⟩) trivial ?_
        try simp only [Act.put, List.setIfInBounds_toArray, List.set_cons_zero, List.set_cons_succ, List.getElem_toArray, List.getElem_cons_succ, List.getElem_cons_zero]
        refine wpAnyH_done (by as_aux_lemma => kernel_rfl) ?_ _
        go_wp2
        go_ret
        exact ⟨ret_str HR.out, HBN.out⟩
      · skip
        go_simp
        have HBN : Hid (Below w.heap.size w (World.alloc w (.cells #[.int .u8 (48 + (M : Int))] 5))) := Lib.hid (HB0.out.alloc HB0.out.size _)
        have HCN : Hid (World.cell? ((World.alloc w (.cells #[.int .u8 (48 + (M : Int))] 5)).drew) ⟨w.heap.size, 0, none⟩ = some (.int .u8 (48 + (M : Int)))) := Lib.hid (by have h := heap_alloc_new w (.cells #[.int .u8 (48 + (M : Int))] 5); simp only [World.cell?, World.drew, h]; rfl)
        refine hK.out _ _ trivial (fun _ => ?_)
        clear hK K
        try simp only [Act.put, List.setIfInBounds_toArray, List.set_cons_zero, List.set_cons_succ, List.getElem_toArray, List.getElem_cons_succ, List.getElem_cons_zero]
        refine wpAnyH_ready (rs := [2, 8]) (by as_aux_lemma => kernel_rfl) (by simp) ?_
        refine AllReadyH.cons rfl (fun K hK => ?_) (AllReadyH.cons rfl (fun K hK => ?_) AllReadyH.nil)
        · skip
          go_simp
          go_wp2_with (first | (go_at_call 34; fail))
          refine (HIH.out _).mono ?_
          rintro e w9 ⟨rfl, hb9⟩
          have HB9 : Hid (Below w.heap.size w w9) := Lib.hid (HBN.out.drew.trans (below_le hb9 HBN.out.size))
          have HC9 : Hid (w9.cell? ⟨w.heap.size, 0, none⟩ = some (.int .u8 (48 + (M : Int)))) := Lib.hid ((hb9.cell (p := ⟨w.heap.size, 0, none⟩) (by simp)).trans HCN.out)
          clear hb9
          refine hK.out _ _ trivial (fun _ => ?_)
          clear hK K
          try simp only [Act.put, List.setIfInBounds_toArray, List.set_cons_zero, List.set_cons_succ, List.getElem_toArray, List.getElem_cons_succ, List.getElem_cons_zero]
          refine wpAnyH_ready (rs := [8]) (by as_aux_lemma => kernel_rfl) (by simp) ?_
          refine AllReadyH.cons rfl (fun K hK => ?_) AllReadyH.nil
          have hcv := HDG.out (w9) w.heap.size HC9.out
          go_simp
          refine hK.out _ _ trivial (fun _ => ?_)
          clear hK K hcv
          try simp only [Act.put, List.setIfInBounds_toArray, List.set_cons_zero, List.set_cons_succ, List.getElem_toArray, List.getElem_cons_succ, List.getElem_cons_zero]
          refine wpAnyH_ready (rs := [9]) (by as_aux_lemma => kernel_rfl) (by simp) ?_
          refine AllReadyH.cons rfl (fun K hK => ?_) AllReadyH.nil
          go_simp
          refine hK.out _ _ trivial (fun _ => ?_)
          clear hK K
          try simp only [Act.put, List.setIfInBounds_toArray, List.set_cons_zero, List.set_cons_succ, List.getElem_toArray, List.getElem_cons_succ, List.getElem_cons_zero]
          refine wpAnyH_take (i := 10) (v := _) rfl (by as_aux_lemma => kernel_rfl) (by as_aux_lemma => kernel_rfl) (by as_aux_lemma => kernel_rfl) (fun _ _ _ h => h) (Or.inl ⟨by rfl, by intro w hSw; (try dsimp only at hSw); go_simp; try (with_reducible rfl)⟩) trivial ?_
          try simp only [Act.put, List.setIfInBounds_toArray, List.set_cons_zero, List.set_cons_succ, List.getElem_toArray, List.getElem_cons_succ, List.getElem_cons_zero]
          refine wpAnyH_done (by as_aux_lemma => kernel_rfl) ?_ _
          go_wp2
          go_ret
          exact ⟨ret_str HR.out, HB9.out⟩
        · skip
          have hcv := HDG.out ((World.alloc w (.cells #[.int .u8 (48 + (M : Int))] 5)).drew) w.heap.size HCN.out
          go_simp
          refine hK.out _ _ trivial (fun _ => ?_)
          clear hK K hcv
          try simp only [Act.put, List.setIfInBounds_toArray, List.set_cons_zero, List.set_cons_succ, List.getElem_toArray, List.getElem_cons_succ, List.getElem_cons_zero]
          refine wpAnyH_ready (rs := [2]) (by as_aux_lemma => kernel_rfl) (by simp) ?_
          refine AllReadyH.cons rfl (fun K hK => ?_) AllReadyH.nil
          go_simp
          go_wp2_with (first | (go_at_call 34; fail))
          refine (HIH.out _).mono ?_
          rintro e w9 ⟨rfl, hb9⟩
          have HB9 : Hid (Below w.heap.size w w9) := Lib.hid (HBN.out.drew.trans (below_le hb9 HBN.out.size))
          clear hb9
          refine hK.out _ _ trivial (fun _ => ?_)
          clear hK K
          try simp only [Act.put, List.setIfInBounds_toArray, List.set_cons_zero, List.set_cons_succ, List.getElem_toArray, List.getElem_cons_succ, List.getElem_cons_zero]
          refine wpAnyH_ready (rs := [9]) (by as_aux_lemma => kernel_rfl) (by simp) ?_
          refine AllReadyH.cons rfl (fun K hK => ?_) AllReadyH.nil
          go_simp
          refine hK.out _ _ trivial (fun _ => ?_)
          clear hK K
          try simp only [Act.put, List.setIfInBounds_toArray, List.set_cons_zero, List.set_cons_succ, List.getElem_toArray, List.getElem_cons_succ, List.getElem_cons_zero]
          refine wpAnyH_take (i := 10) (v := _) rfl (by as_aux_lemma => kernel_rfl) (by as_aux_lemma => kernel_rfl) (by as_aux_lemma => kernel_rfl) (fun _ _ _ h => h) (Or.inl ⟨by rfl, by intro w hSw; (try dsimp only at hSw); go_simp; try (with_reducible rfl)⟩) trivial ?_
          try simp only [Act.put, List.setIfInBounds_toArray, List.set_cons_zero, List.set_cons_succ, List.getElem_toArray, List.getElem_cons_succ, List.getElem_cons_zero]
          refine wpAnyH_done (by as_aux_lemma => kernel_rfl) ?_ _
          go_wp2
          go_ret
          exact ⟨ret_str HR.out, HB9.out⟩
end Go.Proofs.YtfalcmbjjlgoaaaGreatDoor
/- Walks: the reference's num, sign, Same. -/
namespace Go.Proofs.YtfalcmbjjlgoaaaGreatDoor
open Go.RowKit Go.Shelf Ieee
attribute [local go_sem] run_store_float
def oneB : Nat := 4607182418800017408
/-- Is a number that is 0 below 0: what 1 / x says. -/
def sgN (x : Nat) : Bool := match double.div oneB x with
  | some r => double.order r 0 == some .lt
  | none => false
def sameN (x y : Nat) : Bool :=
  if isNan x = true ∨ isNan y = true then isNan x && isNan y
  else (double.order x y == some .eq) && (!(double.order x 0 == some .eq) || sgN x == sgN y)
def sameV (a b : Vl) : Bool := if a.t ≠ b.t then false else if a.t = 1 then sameN a.n b.n else if a.t = 2 then decide (a.s = b.s) else if a.t = 3 then a.b == b.b else true
def vlV (a : Vl) : Value := .agg #[.int .i64 a.t, .float .f64 a.n, .string (tx a.s), .bool a.b]
theorem below_drewN {n : Nat} {a w : World} (h : Below n a w) (k : Nat) : Below n a (w.drewN k) := h.trans ⟨rfl, rfl, rfl, Nat.le_refl _, fun _ _ => rfl⟩
theorem order_self {x : Nat} (h : isNan x = false) : double.order x x = some .eq := by
  rw [order_val x x h h]
  simp [compare, compareOfLessAndEq]
theorem sameN_self (x : Nat) : sameN x x = true := by
  unfold sameN
  cases h : isNan x
  · rw [if_neg (by simp), order_self h]
    simp
  · rw [if_pos (.inl rfl)]; rfl
theorem sameN_fA {x y : Nat} (h : fA x = fA y) : sameN x y = true := by
  cases hx : isNan x
  · rw [fA_num hx] at h
    have hy : isNan y = false := by
      cases hy : isNan y
      · rfl
      · rw [fA_nan hy] at h; cases h
    rw [fA_num hy] at h
    cases h
    exact sameN_self x
  · rw [fA_nan hx] at h
    have hy : isNan y = true := by
      cases hy : isNan y
      · rw [fA_num hy] at h; cases h
      · rfl
    unfold sameN
    rw [if_pos (.inl hx), hx, hy]
    rfl
theorem div_one {x : Nat} (h : isNan x = false) : ∃ r, double.div oneB x = some r := by
  obtain ⟨m, i, hm, h1⟩ : ∃ m i, m ≠ 0 ∧ double.read oneB = .number (isNeg oneB) m i := by
    obtain ⟨m, i, h1, _, h2⟩ := read_fin oneB (by decide)
    refine ⟨m, i, fun e => ?_, h1⟩
    rw [e, Nat.zero_mul, ← valN_zero] at h2
    exact absurd (valN_inj h2) (by decide)
  unfold Format.div
  rw [h1]
  rcases read_num x h with ⟨n, j, q⟩ | q
  · rw [q]
    unfold Datum.quotient
    by_cases hn : n = 0
    · simp [hn, hm]
    · simp [hn]
  · rw [q]
    exact ⟨_, rfl⟩
set_option maxHeartbeats 1000000 in
theorem rnum (n : Nat) (w : World) : Calls Tryz.prog 27 #[.float .f64 n] w fun e w' => e = .returned (.agg #[.int .i64 1, .float .f64 n, .string ⟨#[]⟩, .bool false]) ∧ Below w.heap.size w w' := by
  go_enter Tryz.func27, Tryz.ntmps27
  go_wp2
  refine bodyPost_ret (val_res rfl _ _ w.heap.size _ _ _ _ rfl (heap_alloc_new _ _)) rfl ?_
  exact ⟨rfl, (Below.refl _ _).alloc (Nat.le_refl _) _⟩
set_option maxHeartbeats 1000000 in
theorem rsign (x : Nat) (h : isNan x = false) (w : World) : Calls Tryz.prog 39 #[.float .f64 x] w fun e w' => e = .returned (.bool (sgN x)) ∧ w = w' := by
  obtain ⟨r, hr⟩ := div_one h
  have hV : ∀ W, (binOp BinOp.quo 22 (.float .f64 4607182418800017408) (.float .f64 x)).run Tryz.prog W = .ok (.float .f64 r) W := fun W => run_float_arith W .quo 22 .f64 _ _ _ hr
  have HE : Hid ((FloatKind.f64.format.order r 0 == some .lt) = sgN x) := Lib.hid (by unfold sgN; rw [hr]; rfl)
  clear h hr
  go_enter Tryz.func39, Tryz.ntmps39
  go_wp2
  go_ret
  exact ⟨ret_bool HE.out, rfl⟩
set_option maxRecDepth 100000 in
set_option maxHeartbeats 8000000 in
theorem rSame (a b : Vl) (w : World) : Calls Tryz.prog 22 #[vlV a, vlV b] w fun e w' => e = .returned (.bool (sameV a b)) ∧ Below w.heap.size w w' := by
  obtain ⟨ta, na, sa, ba⟩ := a
  obtain ⟨tb, nb, sb, bb⟩ := b
  have HAL := Lib.hid (fun o1 o2 => ((Below.refl w.heap.size w).alloc (Nat.le_refl _) o1).alloc (by simp) o2)
  show Calls Tryz.prog 22 #[.agg #[.int .i64 ta, .float .f64 na, .string (tx sa), .bool ba], .agg #[.int .i64 tb, .float .f64 nb, .string (tx sb), .bool bb]] w _
  obtain ⟨R, hR⟩ : ∃ R, R = sameV ⟨ta, na, sa, ba⟩ ⟨tb, nb, sb, bb⟩ := ⟨_, rfl⟩
  rw [← hR]
  unfold sameV at hR
  simp only at hR
  by_cases ht : ta = tb
  · subst ht
    rw [if_neg (by simp)] at hR
    by_cases t1 : ta = 1
    · subst t1
      rw [if_pos rfl] at hR
      unfold sameN at hR
      cases hx : isNan na
      · have o1 : (FloatKind.f64.format.order na na != some .eq) = false := by rw [show FloatKind.f64.format = double from rfl, order_self hx]; rfl
        cases hy : isNan nb
        · have o2 : (FloatKind.f64.format.order nb nb != some .eq) = false := by rw [show FloatKind.f64.format = double from rfl, order_self hy]; rfl
          rw [if_neg (by simp [hx, hy])] at hR
          cases o3 : (FloatKind.f64.format.order na nb == some .eq)
          · have HR : Hid (R = false) := Lib.hid (by rw [hR, show (double.order na nb == some .eq) = false from o3]; rfl)
            clear hR hx hy
            go_enter Tryz.func22, Tryz.ntmps22
            go_wp2
            go_quiet (fail)
            go_wp2
            go_ret
            exact ⟨ret_bool HR.out.symm, below_drewN (HAL.out _ _) _⟩
          · cases o4 : (FloatKind.f64.format.order na 0 == some .eq)
            · have HR : Hid (R = true) := Lib.hid (by rw [hR, show (double.order na nb == some .eq) = true from o3, show (double.order na 0 == some .eq) = false from o4]; rfl)
              have o5 : (FloatKind.f64.format.order na 0 != some .eq) = true := by simp only [bne, o4]; rfl
              clear hR hx hy
              go_enter Tryz.func22, Tryz.ntmps22
              go_wp2
              go_quiet (fail)
              go_wp2
              go_ret
              exact ⟨ret_bool HR.out.symm, below_drewN (HAL.out _ _) _⟩
            · have HR : Hid (R = (sgN na == sgN nb)) := Lib.hid (by rw [hR, show (double.order na nb == some .eq) = true from o3, show (double.order na 0 == some .eq) = true from o4]; rfl)
              have o5 : (FloatKind.f64.format.order na 0 != some .eq) = false := by simp only [bne, o4]; rfl
              have HSA := Lib.hid (fun W => rsign na hx W)
              have HSB := Lib.hid (fun W => rsign nb hy W)
              clear hR hx hy
              go_enter Tryz.func22, Tryz.ntmps22
              go_wp2
              go_quiet ((first | (go_at_call 39; exact quiet_eq (HSA.out _)) | (go_at_call 39; exact quiet_eq (HSB.out _))))
              go_wp2
              go_ret
              exact ⟨ret_bool HR.out.symm, below_drewN (HAL.out _ _) _⟩
        · have o2 : (FloatKind.f64.format.order nb nb != some .eq) = true := by rw [show FloatKind.f64.format = double from rfl, order_nan nb nb (.inl hy)]; rfl
          rw [if_pos (.inr hy), hx] at hR
          have HR : Hid (R = false) := Lib.hid hR
          clear hR hx hy
          go_enter Tryz.func22, Tryz.ntmps22
          go_wp2
          go_ret
          exact ⟨ret_bool HR.out.symm, HAL.out _ _⟩
      · have o1 : (FloatKind.f64.format.order na na != some .eq) = true := by rw [show FloatKind.f64.format = double from rfl, order_nan na na (.inl hx)]; rfl
        rw [if_pos (.inl hx), hx] at hR
        cases hy : isNan nb
        · have o2 : (FloatKind.f64.format.order nb nb != some .eq) = false := by rw [show FloatKind.f64.format = double from rfl, order_self hy]; rfl
          have HR : Hid (R = false) := Lib.hid (by rw [hR, hy]; rfl)
          clear hR hx hy
          go_enter Tryz.func22, Tryz.ntmps22
          go_wp2
          go_ret
          exact ⟨ret_bool HR.out.symm, HAL.out _ _⟩
        · have o2 : (FloatKind.f64.format.order nb nb != some .eq) = true := by rw [show FloatKind.f64.format = double from rfl, order_nan nb nb (.inl hy)]; rfl
          have HR : Hid (R = true) := Lib.hid (by rw [hR, hy]; rfl)
          clear hR hx hy
          go_enter Tryz.func22, Tryz.ntmps22
          go_wp2
          go_ret
          exact ⟨ret_bool HR.out.symm, HAL.out _ _⟩
    · rw [if_neg t1] at hR
      have i1 : (ta == 1) = false := by simpa using t1
      by_cases t2 : ta = 2
      · subst t2
        rw [if_pos rfl] at hR
        have HR : Hid (R = ((tx sa).toList == (tx sb).toList)) := Lib.hid (by rw [hR, tx_toList, tx_toList]; by_cases e : sa = sb <;> simp [e])
        clear hR
        go_enter Tryz.func22, Tryz.ntmps22
        go_wp2
        go_ret
        exact ⟨ret_bool HR.out.symm, HAL.out _ _⟩
      · rw [if_neg t2] at hR
        have i2 : (ta == 2) = false := by simpa using t2
        by_cases t3 : ta = 3
        · subst t3
          rw [if_pos rfl] at hR
          have HR : Hid (R = (ba == bb)) := Lib.hid hR
          clear hR
          go_enter Tryz.func22, Tryz.ntmps22
          go_wp2
          go_ret
          exact ⟨ret_bool HR.out.symm, HAL.out _ _⟩
        · rw [if_neg t3] at hR
          have i3 : (ta == 3) = false := by simpa using t3
          have HR : Hid (R = true) := Lib.hid hR
          clear hR
          go_enter Tryz.func22, Tryz.ntmps22
          go_wp2
          go_ret
          exact ⟨ret_bool HR.out.symm, HAL.out _ _⟩
  · rw [if_pos ht] at hR
    have i1 : (ta != tb) = true := by simpa using ht
    have HR : Hid (R = false) := Lib.hid hR
    clear hR
    go_enter Tryz.func22, Tryz.ntmps22
    go_wp2
    go_ret
    exact ⟨ret_bool HR.out.symm, HAL.out _ _⟩
end Go.Proofs.YtfalcmbjjlgoaaaGreatDoor
/- Walks: the reference's takes, of (printed by gen_t1.py). -/
namespace Go.Proofs.YtfalcmbjjlgoaaaGreatDoor
open Go.RowKit Go.Shelf
attribute [local go_sem] run_store_float
theorem takes_12 {op : Bs} {k : Nat} (h : takesT op = some k) (h0 : op ≠ wnum) (h1 : op ≠ wtext) (h2 : op ≠ wname) : (k = 1 ∧ (op = wnot ∨ op = wneg ∨ op = wabs ∨ op = wlen)) ∨ (k = 2 ∧ op ≠ wnot ∧ op ≠ wneg ∧ op ≠ wabs ∧ op ≠ wlen) := by
  unfold takesT at h
  rw [if_neg (fun e => by rcases e with e | e | e; exact h0 e; exact h1 e; exact h2 e)] at h
  by_cases q : op = wnot ∨ op = wneg ∨ op = wlen ∨ op = wabs
  · rw [if_pos q] at h
    cases h
    rcases q with q | q | q | q
    · exact .inl ⟨rfl, .inl q⟩
    · exact .inl ⟨rfl, .inr (.inl q)⟩
    · exact .inl ⟨rfl, .inr (.inr (.inr q))⟩
    · exact .inl ⟨rfl, .inr (.inr (.inl q))⟩
  · rw [if_neg q] at h
    split at h
    · cases h
      exact .inr ⟨rfl, fun e => q (.inl e), fun e => q (.inr (.inl e)), fun e => q (.inr (.inr (.inr e))), fun e => q (.inr (.inr (.inl e)))⟩
    · cases h
/-- How many parts an Op takes, as the reference says it. -/
def takesR (op : Bs) : Int := match takesT op with | some k => (k : Int) | none => -1
/-- The type of an Op of parts of types, as the reference says it. -/
def ofT (op : Bs) (l : List Nat) : Nat := if op = wnum then 1 else if op = wtext then 2 else madeT op l
set_option maxHeartbeats 4000000 in
theorem rtakes (op : Bs) (w : World) : Calls Tryz.prog 33 #[.string (tx op)] w fun e w' => e = .returned (.int .i64 (takesR op)) ∧ w = w' := by
  unfold takesR
  rcases opcases op with ⟨ho, b0, b1, b2, b3, b4, b5, b6, b7, b8, b9, b10, b11, b12, b13, b14, b15, b16, b17, b18, b19⟩ | ⟨ho, b0, b1, b2, b3, b4, b5, b6, b7, b8, b9, b10, b11, b12, b13, b14, b15, b16, b17, b18, b19⟩ | ⟨ho, b0, b1, b2, b3, b4, b5, b6, b7, b8, b9, b10, b11, b12, b13, b14, b15, b16, b17, b18, b19⟩ | ⟨ho, b0, b1, b2, b3, b4, b5, b6, b7, b8, b9, b10, b11, b12, b13, b14, b15, b16, b17, b18, b19⟩ | ⟨ho, b0, b1, b2, b3, b4, b5, b6, b7, b8, b9, b10, b11, b12, b13, b14, b15, b16, b17, b18, b19⟩ | ⟨ho, b0, b1, b2, b3, b4, b5, b6, b7, b8, b9, b10, b11, b12, b13, b14, b15, b16, b17, b18, b19⟩ | ⟨ho, b0, b1, b2, b3, b4, b5, b6, b7, b8, b9, b10, b11, b12, b13, b14, b15, b16, b17, b18, b19⟩ | ⟨ho, b0, b1, b2, b3, b4, b5, b6, b7, b8, b9, b10, b11, b12, b13, b14, b15, b16, b17, b18, b19⟩ | ⟨ho, b0, b1, b2, b3, b4, b5, b6, b7, b8, b9, b10, b11, b12, b13, b14, b15, b16, b17, b18, b19⟩ | ⟨ho, b0, b1, b2, b3, b4, b5, b6, b7, b8, b9, b10, b11, b12, b13, b14, b15, b16, b17, b18, b19⟩ | ⟨ho, b0, b1, b2, b3, b4, b5, b6, b7, b8, b9, b10, b11, b12, b13, b14, b15, b16, b17, b18, b19⟩ | ⟨ho, b0, b1, b2, b3, b4, b5, b6, b7, b8, b9, b10, b11, b12, b13, b14, b15, b16, b17, b18, b19⟩ | ⟨ho, b0, b1, b2, b3, b4, b5, b6, b7, b8, b9, b10, b11, b12, b13, b14, b15, b16, b17, b18, b19⟩ | ⟨ho, b0, b1, b2, b3, b4, b5, b6, b7, b8, b9, b10, b11, b12, b13, b14, b15, b16, b17, b18, b19⟩ | ⟨ho, b0, b1, b2, b3, b4, b5, b6, b7, b8, b9, b10, b11, b12, b13, b14, b15, b16, b17, b18, b19⟩ | ⟨ho, b0, b1, b2, b3, b4, b5, b6, b7, b8, b9, b10, b11, b12, b13, b14, b15, b16, b17, b18, b19⟩ | ⟨ho, b0, b1, b2, b3, b4, b5, b6, b7, b8, b9, b10, b11, b12, b13, b14, b15, b16, b17, b18, b19⟩ | ⟨ho, b0, b1, b2, b3, b4, b5, b6, b7, b8, b9, b10, b11, b12, b13, b14, b15, b16, b17, b18, b19⟩ | ⟨ho, b0, b1, b2, b3, b4, b5, b6, b7, b8, b9, b10, b11, b12, b13, b14, b15, b16, b17, b18, b19⟩ | ⟨ho, b0, b1, b2, b3, b4, b5, b6, b7, b8, b9, b10, b11, b12, b13, b14, b15, b16, b17, b18, b19⟩ | ⟨ho, b0, b1, b2, b3, b4, b5, b6, b7, b8, b9, b10, b11, b12, b13, b14, b15, b16, b17, b18, b19⟩
  all_goals
    first
      | (have hT : takesT op = some 0 := (by subst ho; decide); rw [hT]; clear ho hT)
      | (have hT : takesT op = some 1 := (by subst ho; decide); rw [hT]; clear ho hT)
      | (have hT : takesT op = some 2 := (by subst ho; decide); rw [hT]; clear ho hT)
      | (rw [takes_none ho]; clear ho)
    generalize tx op = T at *
    go_enter Tryz.func33, Tryz.ntmps33
    go_wp2
    go_ret
    exact ⟨rfl, rfl⟩
theorem giv_range (k : Nat) (c : Bool) (h : giv k c ≠ 0) : giv k c = k := by
  cases c
  · exact absurd rfl h
  · rfl
theorem made_range {op : Bs} {l : List Nat} (h : madeT op l ≠ 0) : madeT op l = 1 ∨ madeT op l = 3 := by
  have key : ∀ (c : Prop) [Decidable c] (x y : Nat), (x ≠ 0 → x = 1 ∨ x = 3) → (y ≠ 0 → y = 1 ∨ y = 3) → (if c then x else y) ≠ 0 → (if c then x else y) = 1 ∨ (if c then x else y) = 3 := by
    intro c _ x y hx hy h
    split at h
    · rename_i hc; rw [if_pos hc]; exact hx h
    · rename_i hc; rw [if_neg hc]; exact hy h
  have g1 : ∀ c, giv 1 c ≠ 0 → giv 1 c = 1 ∨ giv 1 c = 3 := fun c h => .inl (giv_range 1 c h)
  have g3 : ∀ c, giv 3 c ≠ 0 → giv 3 c = 1 ∨ giv 3 c = 3 := fun c h => .inr (giv_range 3 c h)
  unfold madeT at h ⊢
  exact key _ _ _ (g1 _) (key _ _ _ (g1 _) (key _ _ _ (g3 _) (key _ _ _ (g3 _) (key _ _ _ (g3 _) (g3 _))))) h
theorem ty_range {L : List Bnd} {t : Tree} (h : (tyT L t).2 = 0) : (tyT L t).1 = 1 ∨ (tyT L t).1 = 2 ∨ (tyT L t).1 = 3 := by
  obtain ⟨op, fn, s, c⟩ := t
  obtain ⟨h1, h2, h3⟩ := ty_ok h
  rw [tyT_good L op s fn c h2, if_neg (fun e => e h1)] at h ⊢
  by_cases o0 : op = wnum
  · rw [if_pos o0]; exact .inl rfl
  · rw [if_neg o0] at h ⊢
    by_cases o1 : op = wtext
    · rw [if_pos o1]; exact .inr (.inl rfl)
    · rw [if_neg o1] at h ⊢
      by_cases o2 : op = wname
      · rw [if_pos o2] at h ⊢
        obtain ⟨v, hv⟩ := h3 o2
        rw [hv]
        rcases bound_t hv with e | e | e <;> simp only [e]
        · exact .inl rfl
        · exact .inr (.inl rfl)
        · exact .inr (.inr rfl)
      · rw [if_neg o2] at h ⊢
        by_cases m0 : madeT op (c.map (fun t => (tyT L t).1)) = 0
        · rw [if_pos m0] at h; cases h
        · rw [if_neg m0]
          rcases made_range m0 with e | e
          · exact .inl e
          · exact .inr (.inr e)
theorem ofCase0 (op : Bs) (v : Value) (w : World) (h : TyV w v []) (ho : op = wnum ∨ op = wtext) : Calls Tryz.prog 48 #[.string (tx op), v] w fun e w' => e = .returned (.int .i64 (ofT op [] : Nat)) ∧ w = w' := by
  obtain ⟨x, cap, rfl, _, hx, _⟩ := h
  show Calls Tryz.prog 48 #[.string (tx op), .slice x 0 cap] w _
  rcases ho with rfl | rfl
  · have hM : ofT wnum [] = 1 := rfl
    rw [hM]
    have b0 := tx_same wnum
    unfold wnum at b0 ⊢
    generalize tx [110, 117, 109] = T at *
    go_enter Tryz.func48, Tryz.ntmps48
    go_wp2
    go_ret
    exact ⟨rfl, rfl⟩
  · have hM : ofT wtext [] = 2 := by decide
    rw [hM]
    have b0 : ((tx wtext).toList == [110, 117, 109]) = false := tx_ne (by decide)
    have b1 := tx_same wtext
    unfold wtext at b0 b1 ⊢
    generalize tx [116, 101, 120, 116] = T at *
    go_enter Tryz.func48, Tryz.ntmps48
    go_wp2
    go_ret
    exact ⟨rfl, rfl⟩
set_option maxRecDepth 100000 in
set_option maxHeartbeats 16000000 in
theorem ofCase1 (op : Bs) (t0 : Nat) (h0 : t0 = 1 ∨ t0 = 2 ∨ t0 = 3) (hop : takesT op = some 1) (v : Value) (w : World) (h : TyV w v [t0]) : Calls Tryz.prog 48 #[.string (tx op), v] w fun e w' => e = .returned (.int .i64 (ofT op [t0] : Nat)) ∧ w = w' := by
  obtain ⟨x, cap, rfl, hcap, hx, hc⟩ := h
  obtain ⟨a, rfl⟩ : ∃ a, x = some a := by
    cases x with
    | none => have := hx rfl; cases this
    | some a => exact ⟨a, rfl⟩
  have c0 := hc a rfl 0 t0 rfl
  rw [show a.add 0 = a from rfl] at c0
  show Calls Tryz.prog 48 #[.string (tx op), .slice (some a) 1 cap] w _
  clear hc hx
  obtain ⟨M, hM⟩ : ∃ M, M = ofT op [t0] := ⟨_, rfl⟩
  rw [← hM]
  rcases opcases op with ⟨ho, b0, b1, b2, b3, b4, b5, b6, b7, b8, b9, b10, b11, b12, b13, b14, b15, b16, b17, b18, b19⟩ | ⟨ho, b0, b1, b2, b3, b4, b5, b6, b7, b8, b9, b10, b11, b12, b13, b14, b15, b16, b17, b18, b19⟩ | ⟨ho, b0, b1, b2, b3, b4, b5, b6, b7, b8, b9, b10, b11, b12, b13, b14, b15, b16, b17, b18, b19⟩ | ⟨ho, b0, b1, b2, b3, b4, b5, b6, b7, b8, b9, b10, b11, b12, b13, b14, b15, b16, b17, b18, b19⟩ | ⟨ho, b0, b1, b2, b3, b4, b5, b6, b7, b8, b9, b10, b11, b12, b13, b14, b15, b16, b17, b18, b19⟩ | ⟨ho, b0, b1, b2, b3, b4, b5, b6, b7, b8, b9, b10, b11, b12, b13, b14, b15, b16, b17, b18, b19⟩ | ⟨ho, b0, b1, b2, b3, b4, b5, b6, b7, b8, b9, b10, b11, b12, b13, b14, b15, b16, b17, b18, b19⟩ | ⟨ho, b0, b1, b2, b3, b4, b5, b6, b7, b8, b9, b10, b11, b12, b13, b14, b15, b16, b17, b18, b19⟩ | ⟨ho, b0, b1, b2, b3, b4, b5, b6, b7, b8, b9, b10, b11, b12, b13, b14, b15, b16, b17, b18, b19⟩ | ⟨ho, b0, b1, b2, b3, b4, b5, b6, b7, b8, b9, b10, b11, b12, b13, b14, b15, b16, b17, b18, b19⟩ | ⟨ho, b0, b1, b2, b3, b4, b5, b6, b7, b8, b9, b10, b11, b12, b13, b14, b15, b16, b17, b18, b19⟩ | ⟨ho, b0, b1, b2, b3, b4, b5, b6, b7, b8, b9, b10, b11, b12, b13, b14, b15, b16, b17, b18, b19⟩ | ⟨ho, b0, b1, b2, b3, b4, b5, b6, b7, b8, b9, b10, b11, b12, b13, b14, b15, b16, b17, b18, b19⟩ | ⟨ho, b0, b1, b2, b3, b4, b5, b6, b7, b8, b9, b10, b11, b12, b13, b14, b15, b16, b17, b18, b19⟩ | ⟨ho, b0, b1, b2, b3, b4, b5, b6, b7, b8, b9, b10, b11, b12, b13, b14, b15, b16, b17, b18, b19⟩ | ⟨ho, b0, b1, b2, b3, b4, b5, b6, b7, b8, b9, b10, b11, b12, b13, b14, b15, b16, b17, b18, b19⟩ | ⟨ho, b0, b1, b2, b3, b4, b5, b6, b7, b8, b9, b10, b11, b12, b13, b14, b15, b16, b17, b18, b19⟩ | ⟨ho, b0, b1, b2, b3, b4, b5, b6, b7, b8, b9, b10, b11, b12, b13, b14, b15, b16, b17, b18, b19⟩ | ⟨ho, b0, b1, b2, b3, b4, b5, b6, b7, b8, b9, b10, b11, b12, b13, b14, b15, b16, b17, b18, b19⟩ | ⟨ho, b0, b1, b2, b3, b4, b5, b6, b7, b8, b9, b10, b11, b12, b13, b14, b15, b16, b17, b18, b19⟩ | ⟨ho, b0, b1, b2, b3, b4, b5, b6, b7, b8, b9, b10, b11, b12, b13, b14, b15, b16, b17, b18, b19⟩
  · subst ho; exact absurd hop (by decide)
  · subst ho; exact absurd hop (by decide)
  · subst ho; exact absurd hop (by decide)
  · clear hop
    rcases h0 with rfl | rfl | rfl
    all_goals
      first
        | (have hK : M = 0 := (by rw [hM]; subst ho; decide); subst hK)
        | (have hK : M = 1 := (by rw [hM]; subst ho; decide); subst hK)
        | (have hK : M = 3 := (by rw [hM]; subst ho; decide); subst hK)
      clear ho hM
      generalize tx op = T at *
      go_enter Tryz.func48, Tryz.ntmps48
      go_wp2
      go_ret
      exact ⟨rfl, rfl⟩
  · clear hop
    rcases h0 with rfl | rfl | rfl
    all_goals
      first
        | (have hK : M = 0 := (by rw [hM]; subst ho; decide); subst hK)
        | (have hK : M = 1 := (by rw [hM]; subst ho; decide); subst hK)
        | (have hK : M = 3 := (by rw [hM]; subst ho; decide); subst hK)
      clear ho hM
      generalize tx op = T at *
      go_enter Tryz.func48, Tryz.ntmps48
      go_wp2
      go_ret
      exact ⟨rfl, rfl⟩
  · clear hop
    rcases h0 with rfl | rfl | rfl
    all_goals
      first
        | (have hK : M = 0 := (by rw [hM]; subst ho; decide); subst hK)
        | (have hK : M = 1 := (by rw [hM]; subst ho; decide); subst hK)
        | (have hK : M = 3 := (by rw [hM]; subst ho; decide); subst hK)
      clear ho hM
      generalize tx op = T at *
      go_enter Tryz.func48, Tryz.ntmps48
      go_wp2
      go_ret
      exact ⟨rfl, rfl⟩
  · clear hop
    rcases h0 with rfl | rfl | rfl
    all_goals
      first
        | (have hK : M = 0 := (by rw [hM]; subst ho; decide); subst hK)
        | (have hK : M = 1 := (by rw [hM]; subst ho; decide); subst hK)
        | (have hK : M = 3 := (by rw [hM]; subst ho; decide); subst hK)
      clear ho hM
      generalize tx op = T at *
      go_enter Tryz.func48, Tryz.ntmps48
      go_wp2
      go_ret
      exact ⟨rfl, rfl⟩
  · subst ho; exact absurd hop (by decide)
  · subst ho; exact absurd hop (by decide)
  · subst ho; exact absurd hop (by decide)
  · subst ho; exact absurd hop (by decide)
  · subst ho; exact absurd hop (by decide)
  · subst ho; exact absurd hop (by decide)
  · subst ho; exact absurd hop (by decide)
  · subst ho; exact absurd hop (by decide)
  · subst ho; exact absurd hop (by decide)
  · subst ho; exact absurd hop (by decide)
  · subst ho; exact absurd hop (by decide)
  · subst ho; exact absurd hop (by decide)
  · subst ho; exact absurd hop (by decide)
  · rw [takes_none ho] at hop; cases hop
set_option maxRecDepth 100000 in
set_option maxHeartbeats 64000000 in
theorem ofCase2 (op : Bs) (t0 t1 : Nat) (h0 : t0 = 1 ∨ t0 = 2 ∨ t0 = 3) (h1 : t1 = 1 ∨ t1 = 2 ∨ t1 = 3) (hop : takesT op = some 2) (v : Value) (w : World) (h : TyV w v [t0, t1]) : Calls Tryz.prog 48 #[.string (tx op), v] w fun e w' => e = .returned (.int .i64 (ofT op [t0, t1] : Nat)) ∧ w = w' := by
  obtain ⟨x, cap, rfl, hcap, hx, hc⟩ := h
  obtain ⟨a, rfl⟩ : ∃ a, x = some a := by
    cases x with
    | none => have := hx rfl; cases this
    | some a => exact ⟨a, rfl⟩
  have c0 := hc a rfl 0 t0 rfl
  have c1 := hc a rfl 1 t1 rfl
  rw [show a.add 0 = a from rfl] at c0
  have c1' : w.cell? ⟨a.block, a.off + 1, none⟩ = some (.int .i64 (t1 : Nat)) := by simpa [Addr.add] using c1
  show Calls Tryz.prog 48 #[.string (tx op), .slice (some a) 2 cap] w _
  clear hc hx c1
  obtain ⟨M, hM⟩ : ∃ M, M = ofT op [t0, t1] := ⟨_, rfl⟩
  rw [← hM]
  rcases opcases op with ⟨ho, b0, b1, b2, b3, b4, b5, b6, b7, b8, b9, b10, b11, b12, b13, b14, b15, b16, b17, b18, b19⟩ | ⟨ho, b0, b1, b2, b3, b4, b5, b6, b7, b8, b9, b10, b11, b12, b13, b14, b15, b16, b17, b18, b19⟩ | ⟨ho, b0, b1, b2, b3, b4, b5, b6, b7, b8, b9, b10, b11, b12, b13, b14, b15, b16, b17, b18, b19⟩ | ⟨ho, b0, b1, b2, b3, b4, b5, b6, b7, b8, b9, b10, b11, b12, b13, b14, b15, b16, b17, b18, b19⟩ | ⟨ho, b0, b1, b2, b3, b4, b5, b6, b7, b8, b9, b10, b11, b12, b13, b14, b15, b16, b17, b18, b19⟩ | ⟨ho, b0, b1, b2, b3, b4, b5, b6, b7, b8, b9, b10, b11, b12, b13, b14, b15, b16, b17, b18, b19⟩ | ⟨ho, b0, b1, b2, b3, b4, b5, b6, b7, b8, b9, b10, b11, b12, b13, b14, b15, b16, b17, b18, b19⟩ | ⟨ho, b0, b1, b2, b3, b4, b5, b6, b7, b8, b9, b10, b11, b12, b13, b14, b15, b16, b17, b18, b19⟩ | ⟨ho, b0, b1, b2, b3, b4, b5, b6, b7, b8, b9, b10, b11, b12, b13, b14, b15, b16, b17, b18, b19⟩ | ⟨ho, b0, b1, b2, b3, b4, b5, b6, b7, b8, b9, b10, b11, b12, b13, b14, b15, b16, b17, b18, b19⟩ | ⟨ho, b0, b1, b2, b3, b4, b5, b6, b7, b8, b9, b10, b11, b12, b13, b14, b15, b16, b17, b18, b19⟩ | ⟨ho, b0, b1, b2, b3, b4, b5, b6, b7, b8, b9, b10, b11, b12, b13, b14, b15, b16, b17, b18, b19⟩ | ⟨ho, b0, b1, b2, b3, b4, b5, b6, b7, b8, b9, b10, b11, b12, b13, b14, b15, b16, b17, b18, b19⟩ | ⟨ho, b0, b1, b2, b3, b4, b5, b6, b7, b8, b9, b10, b11, b12, b13, b14, b15, b16, b17, b18, b19⟩ | ⟨ho, b0, b1, b2, b3, b4, b5, b6, b7, b8, b9, b10, b11, b12, b13, b14, b15, b16, b17, b18, b19⟩ | ⟨ho, b0, b1, b2, b3, b4, b5, b6, b7, b8, b9, b10, b11, b12, b13, b14, b15, b16, b17, b18, b19⟩ | ⟨ho, b0, b1, b2, b3, b4, b5, b6, b7, b8, b9, b10, b11, b12, b13, b14, b15, b16, b17, b18, b19⟩ | ⟨ho, b0, b1, b2, b3, b4, b5, b6, b7, b8, b9, b10, b11, b12, b13, b14, b15, b16, b17, b18, b19⟩ | ⟨ho, b0, b1, b2, b3, b4, b5, b6, b7, b8, b9, b10, b11, b12, b13, b14, b15, b16, b17, b18, b19⟩ | ⟨ho, b0, b1, b2, b3, b4, b5, b6, b7, b8, b9, b10, b11, b12, b13, b14, b15, b16, b17, b18, b19⟩ | ⟨ho, b0, b1, b2, b3, b4, b5, b6, b7, b8, b9, b10, b11, b12, b13, b14, b15, b16, b17, b18, b19⟩
  · subst ho; exact absurd hop (by decide)
  · subst ho; exact absurd hop (by decide)
  · subst ho; exact absurd hop (by decide)
  · subst ho; exact absurd hop (by decide)
  · subst ho; exact absurd hop (by decide)
  · subst ho; exact absurd hop (by decide)
  · subst ho; exact absurd hop (by decide)
  · clear hop
    rcases h0 with rfl | rfl | rfl <;> rcases h1 with rfl | rfl | rfl
    all_goals
      first
        | (have hK : M = 0 := (by rw [hM]; subst ho; decide); subst hK)
        | (have hK : M = 1 := (by rw [hM]; subst ho; decide); subst hK)
        | (have hK : M = 3 := (by rw [hM]; subst ho; decide); subst hK)
      clear ho hM
      generalize tx op = T at *
      go_enter Tryz.func48, Tryz.ntmps48
      go_wp2
      go_ret
      exact ⟨rfl, rfl⟩
  · clear hop
    rcases h0 with rfl | rfl | rfl <;> rcases h1 with rfl | rfl | rfl
    all_goals
      first
        | (have hK : M = 0 := (by rw [hM]; subst ho; decide); subst hK)
        | (have hK : M = 1 := (by rw [hM]; subst ho; decide); subst hK)
        | (have hK : M = 3 := (by rw [hM]; subst ho; decide); subst hK)
      clear ho hM
      generalize tx op = T at *
      go_enter Tryz.func48, Tryz.ntmps48
      go_wp2
      go_ret
      exact ⟨rfl, rfl⟩
  · clear hop
    rcases h0 with rfl | rfl | rfl <;> rcases h1 with rfl | rfl | rfl
    all_goals
      first
        | (have hK : M = 0 := (by rw [hM]; subst ho; decide); subst hK)
        | (have hK : M = 1 := (by rw [hM]; subst ho; decide); subst hK)
        | (have hK : M = 3 := (by rw [hM]; subst ho; decide); subst hK)
      clear ho hM
      generalize tx op = T at *
      go_enter Tryz.func48, Tryz.ntmps48
      go_wp2
      go_ret
      exact ⟨rfl, rfl⟩
  · clear hop
    rcases h0 with rfl | rfl | rfl <;> rcases h1 with rfl | rfl | rfl
    all_goals
      first
        | (have hK : M = 0 := (by rw [hM]; subst ho; decide); subst hK)
        | (have hK : M = 1 := (by rw [hM]; subst ho; decide); subst hK)
        | (have hK : M = 3 := (by rw [hM]; subst ho; decide); subst hK)
      clear ho hM
      generalize tx op = T at *
      go_enter Tryz.func48, Tryz.ntmps48
      go_wp2
      go_ret
      exact ⟨rfl, rfl⟩
  · clear hop
    rcases h0 with rfl | rfl | rfl <;> rcases h1 with rfl | rfl | rfl
    all_goals
      first
        | (have hK : M = 0 := (by rw [hM]; subst ho; decide); subst hK)
        | (have hK : M = 1 := (by rw [hM]; subst ho; decide); subst hK)
        | (have hK : M = 3 := (by rw [hM]; subst ho; decide); subst hK)
      clear ho hM
      generalize tx op = T at *
      go_enter Tryz.func48, Tryz.ntmps48
      go_wp2
      go_ret
      exact ⟨rfl, rfl⟩
  · clear hop
    rcases h0 with rfl | rfl | rfl <;> rcases h1 with rfl | rfl | rfl
    all_goals
      first
        | (have hK : M = 0 := (by rw [hM]; subst ho; decide); subst hK)
        | (have hK : M = 1 := (by rw [hM]; subst ho; decide); subst hK)
        | (have hK : M = 3 := (by rw [hM]; subst ho; decide); subst hK)
      clear ho hM
      generalize tx op = T at *
      go_enter Tryz.func48, Tryz.ntmps48
      go_wp2
      go_ret
      exact ⟨rfl, rfl⟩
  · clear hop
    rcases h0 with rfl | rfl | rfl <;> rcases h1 with rfl | rfl | rfl
    all_goals
      first
        | (have hK : M = 0 := (by rw [hM]; subst ho; decide); subst hK)
        | (have hK : M = 1 := (by rw [hM]; subst ho; decide); subst hK)
        | (have hK : M = 3 := (by rw [hM]; subst ho; decide); subst hK)
      clear ho hM
      generalize tx op = T at *
      go_enter Tryz.func48, Tryz.ntmps48
      go_wp2
      go_ret
      exact ⟨rfl, rfl⟩
  · clear hop
    rcases h0 with rfl | rfl | rfl <;> rcases h1 with rfl | rfl | rfl
    all_goals
      first
        | (have hK : M = 0 := (by rw [hM]; subst ho; decide); subst hK)
        | (have hK : M = 1 := (by rw [hM]; subst ho; decide); subst hK)
        | (have hK : M = 3 := (by rw [hM]; subst ho; decide); subst hK)
      clear ho hM
      generalize tx op = T at *
      go_enter Tryz.func48, Tryz.ntmps48
      go_wp2
      go_ret
      exact ⟨rfl, rfl⟩
  · clear hop
    rcases h0 with rfl | rfl | rfl <;> rcases h1 with rfl | rfl | rfl
    all_goals
      first
        | (have hK : M = 0 := (by rw [hM]; subst ho; decide); subst hK)
        | (have hK : M = 1 := (by rw [hM]; subst ho; decide); subst hK)
        | (have hK : M = 3 := (by rw [hM]; subst ho; decide); subst hK)
      clear ho hM
      generalize tx op = T at *
      go_enter Tryz.func48, Tryz.ntmps48
      go_wp2
      go_ret
      exact ⟨rfl, rfl⟩
  · clear hop
    rcases h0 with rfl | rfl | rfl <;> rcases h1 with rfl | rfl | rfl
    all_goals
      first
        | (have hK : M = 0 := (by rw [hM]; subst ho; decide); subst hK)
        | (have hK : M = 1 := (by rw [hM]; subst ho; decide); subst hK)
        | (have hK : M = 3 := (by rw [hM]; subst ho; decide); subst hK)
      clear ho hM
      generalize tx op = T at *
      go_enter Tryz.func48, Tryz.ntmps48
      go_wp2
      go_ret
      exact ⟨rfl, rfl⟩
  · clear hop
    rcases h0 with rfl | rfl | rfl <;> rcases h1 with rfl | rfl | rfl
    all_goals
      first
        | (have hK : M = 0 := (by rw [hM]; subst ho; decide); subst hK)
        | (have hK : M = 1 := (by rw [hM]; subst ho; decide); subst hK)
        | (have hK : M = 3 := (by rw [hM]; subst ho; decide); subst hK)
      clear ho hM
      generalize tx op = T at *
      go_enter Tryz.func48, Tryz.ntmps48
      go_wp2
      go_ret
      exact ⟨rfl, rfl⟩
  · clear hop
    rcases h0 with rfl | rfl | rfl <;> rcases h1 with rfl | rfl | rfl
    all_goals
      first
        | (have hK : M = 0 := (by rw [hM]; subst ho; decide); subst hK)
        | (have hK : M = 1 := (by rw [hM]; subst ho; decide); subst hK)
        | (have hK : M = 3 := (by rw [hM]; subst ho; decide); subst hK)
      clear ho hM
      generalize tx op = T at *
      go_enter Tryz.func48, Tryz.ntmps48
      go_wp2
      go_ret
      exact ⟨rfl, rfl⟩
  · clear hop
    rcases h0 with rfl | rfl | rfl <;> rcases h1 with rfl | rfl | rfl
    all_goals
      first
        | (have hK : M = 0 := (by rw [hM]; subst ho; decide); subst hK)
        | (have hK : M = 1 := (by rw [hM]; subst ho; decide); subst hK)
        | (have hK : M = 3 := (by rw [hM]; subst ho; decide); subst hK)
      clear ho hM
      generalize tx op = T at *
      go_enter Tryz.func48, Tryz.ntmps48
      go_wp2
      go_ret
      exact ⟨rfl, rfl⟩
  · rw [takes_none ho] at hop; cases hop
theorem rof (op : Bs) (v : Value) (l : List Nat) (hl : ∀ t ∈ l, t = 1 ∨ t = 2 ∨ t = 3) (hk : takesT op = some l.length) (hn : op ≠ wname) (w : World) (h : TyV w v l) : Calls Tryz.prog 48 #[.string (tx op), v] w fun e w' => e = .returned (.int .i64 (ofT op l : Nat)) ∧ w = w' := by
  match l, hl, hk, h with
  | [], _, hk, h =>
    refine ofCase0 op v w h ?_
    by_cases o0 : op = wnum
    · exact .inl o0
    · by_cases o1 : op = wtext
      · exact .inr o1
      · rcases takes_12 hk o0 o1 hn with ⟨h, _⟩ | ⟨h, _⟩ <;> cases h
  | [t0], hl, hk, h => exact ofCase1 op t0 (hl t0 (by simp)) hk v w h
  | [t0, t1], hl, hk, h => exact ofCase2 op t0 t1 (hl t0 (by simp)) (hl t1 (by simp)) hk v w h
  | t0 :: t1 :: t2 :: r, _, hk, _ =>
    by_cases o0 : op = wnum
    · rw [o0, show takesT wnum = some 0 from by decide] at hk; cases hk
    · by_cases o1 : op = wtext
      · rw [o1, show takesT wtext = some 0 from by decide] at hk; cases hk
      · rcases takes_12 hk o0 o1 hn with ⟨h, _⟩ | ⟨h, _⟩ <;> simp at h
end Go.Proofs.YtfalcmbjjlgoaaaGreatDoor
