/- Own texts, merged: U3. -/
import Derived.Test.YtmhfnpabgkkjaaaMP53
/- Walk: the law RuleOrders. -/
namespace Go.Proofs.Ytmhfnpabgkkjaaa
open Go.RowKit Go.Shelf Ieee
attribute [local go_sem] run_store_float
/-- What the law counts: how many of three hold. -/
def cntB : List Bool → Nat
  | [] => 0
  | b :: r => (if b = true then 1 else 0) + cntB r
theorem cnt_step {l : List Bool} {j : Nat} {b : Bool} (h : l[j]? = some b) : cntB (l.take (j + 1)) = cntB (l.take j) + (if b = true then 1 else 0) := by
  induction l generalizing j with
  | nil => cases h
  | cons x r ih =>
    cases j with
    | zero => cases h; simp [cntB]
    | succ j =>
      have := ih (j := j) (by simpa using h)
      simp only [List.take_succ_cons, cntB, this]
      omega
/-- The law's answers in plain terms. -/
theorem order_facts (a b : Nat) : ∃ LT EQ GT NA : Bool, cmpA isLt (fA a) (fA b) = LT ∧ cmpA isEq (fA a) (fA b) = EQ ∧ cmpA isGt (fA a) (fA b) = GT ∧ cmpA isLe (fA a) (fA b) = (LT || EQ) ∧ cmpA isLe (fA b) (fA a) = (GT || EQ) ∧
    (isNan a || isNan b) = NA ∧ (((cntB [LT, EQ, GT] : Nat) : Int) == 1) = !NA ∧ (((cntB [LT, EQ, GT] : Nat) : Int) == 0) = NA := by
  rcases four a b with ⟨hn, h⟩ | ⟨ha, hb, c, h⟩
  · refine ⟨false, false, false, true, (h _).1, (h _).1, (h _).1, (h _).1, (h _).2, ?_, rfl, rfl⟩
    rcases hn with e | e <;> simp [e]
  · cases c
    · exact ⟨true, false, false, false, (h _).1, (h _).1, (h _).1, (h _).1, (h _).2, by simp [ha, hb], rfl, rfl⟩
    · exact ⟨false, true, false, false, (h _).1, (h _).1, (h _).1, (h _).1, (h _).2, by simp [ha, hb], rfl, rfl⟩
    · exact ⟨false, false, true, false, (h _).1, (h _).1, (h _).1, (h _).1, (h _).2, by simp [ha, hb], rfl, rfl⟩
set_option maxRecDepth 100000 in
set_option maxHeartbeats 32000000 in
theorem orders_tx (a b : Nat) (ha : a < 2 ^ 64) (hb : b < 2 ^ 64) (s : Bs) (m : Int) (w : World) (hm : MaxLn m w) :
    Calls Try.prog 3 #[.float .f64 a, .float .f64 b, .string (tx s)] w fun e w' => e = .returned (.bool true) ∧ Below w.heap.size w w' := by
  obtain ⟨LT, EQ, GT, NA, f1, f2, f3, f4, f5, f6, f7, f8⟩ := order_facts a b
  have HO1 : Hid (∀ W u, BndV W u (xyB a b) → MaxLn m W → Calls Try.prog 4 #[.string ⟨#[120, 32, 60, 32, 121]⟩, u] W fun e w' => e = .returned (.tuple #[.bool LT, .int .i64 0]) ∧ Below W.heap.size W w') := Lib.hid (fun W u h1 h2 => by
    have h := wHolds (xyB a b) (xyB_ok a b) u [120, 32, 60, 32, 121] (by decide) m W h1 h2
    rw [ho_lt, f1] at h
    exact h)
  have HO2 : Hid (∀ W u, BndV W u (xyB a b) → MaxLn m W → Calls Try.prog 4 #[.string ⟨#[120, 32, 61, 32, 121]⟩, u] W fun e w' => e = .returned (.tuple #[.bool EQ, .int .i64 0]) ∧ Below W.heap.size W w') := Lib.hid (fun W u h1 h2 => by
    have h := wHolds (xyB a b) (xyB_ok a b) u [120, 32, 61, 32, 121] (by decide) m W h1 h2
    rw [ho_eq, f2] at h
    exact h)
  have HO3 : Hid (∀ W u, BndV W u (xyB a b) → MaxLn m W → Calls Try.prog 4 #[.string ⟨#[120, 32, 62, 32, 121]⟩, u] W fun e w' => e = .returned (.tuple #[.bool GT, .int .i64 0]) ∧ Below W.heap.size W w') := Lib.hid (fun W u h1 h2 => by
    have h := wHolds (xyB a b) (xyB_ok a b) u [120, 32, 62, 32, 121] (by decide) m W h1 h2
    rw [ho_gt, f3] at h
    exact h)
  have HO4 : Hid (∀ W u, BndV W u (xyB a b) → MaxLn m W → Calls Try.prog 4 #[.string ⟨#[120, 32, 33, 61, 32, 121]⟩, u] W fun e w' => e = .returned (.tuple #[.bool (!EQ), .int .i64 0]) ∧ Below W.heap.size W w') := Lib.hid (fun W u h1 h2 => by
    have h := wHolds (xyB a b) (xyB_ok a b) u [120, 32, 33, 61, 32, 121] (by decide) m W h1 h2
    rw [ho_ne, f2] at h
    exact h)
  have HO5 : Hid (∀ W u, BndV W u (xyB a b) → MaxLn m W → Calls Try.prog 4 #[.string ⟨#[120, 32, 60, 61, 32, 121]⟩, u] W fun e w' => e = .returned (.tuple #[.bool (LT || EQ), .int .i64 0]) ∧ Below W.heap.size W w') := Lib.hid (fun W u h1 h2 => by
    have h := wHolds (xyB a b) (xyB_ok a b) u [120, 32, 60, 61, 32, 121] (by decide) m W h1 h2
    rw [ho_le, f4] at h
    exact h)
  have HO6 : Hid (∀ W u, BndV W u (xyB a b) → MaxLn m W → Calls Try.prog 4 #[.string ⟨#[121, 32, 60, 61, 32, 120]⟩, u] W fun e w' => e = .returned (.tuple #[.bool (GT || EQ), .int .i64 0]) ∧ Below W.heap.size W w') := Lib.hid (fun W u h1 h2 => by
    have h := wHolds (xyB a b) (xyB_ok a b) u [121, 32, 60, 61, 32, 120] (by decide) m W h1 h2
    rw [ho_ge, f5] at h
    exact h)
  have HS1 : Hid (∀ W, Calls Try.prog 5 #[.agg #[.int .i64 1, .float .f64 a, .string ⟨#[]⟩, .bool false], .agg #[.int .i64 1, .float .f64 b, .string ⟨#[]⟩, .bool false]] W fun e w' => e = .returned (.bool (sameN a b)) ∧ Below W.heap.size W w') := Lib.hid (fun W => by
    have h := wSame ⟨1, a, [], false⟩ ⟨1, b, [], false⟩ W
    rw [psameV_is ha hb] at h
    exact h)
  have HS2 : Hid (∀ W, Calls Try.prog 6 #[.agg #[.int .i64 1, .float .f64 a, .string ⟨#[]⟩, .bool false], .agg #[.int .i64 1, .float .f64 b, .string ⟨#[]⟩, .bool false]] W fun e w' => e = .returned (.bool (sameN a b)) ∧ Below W.heap.size W w') := Lib.hid (fun W => rSame ⟨1, a, [], false⟩ ⟨1, b, [], false⟩ W)
  have HS3 : Hid (∀ W, Calls Try.prog 5 #[.agg #[.int .i64 1, .float .f64 a, .string ⟨#[]⟩, .bool false], .agg #[.int .i64 1, .float .f64 a, .string ⟨#[]⟩, .bool false]] W fun e w' => e = .returned (.bool true) ∧ Below W.heap.size W w') := Lib.hid (fun W => by
    have h := wSame ⟨1, a, [], false⟩ ⟨1, a, [], false⟩ W
    rw [psameV_is ha ha, show sameV ⟨1, a, [], false⟩ ⟨1, a, [], false⟩ = true from sameN_self a] at h
    exact h)
  have HS4 : Hid (∀ W, Calls Try.prog 5 #[.agg #[.int .i64 1, .float .f64 a, .string ⟨#[]⟩, .bool false], .agg #[.int .i64 2, .float .f64 0, .string (tx s), .bool false]] W fun e w' => e = .returned (.bool false) ∧ Below W.heap.size W w') := Lib.hid (fun W => wSame ⟨1, a, [], false⟩ ⟨2, 0, s, false⟩ W)
  have HS5 : Hid (∀ W, Calls Try.prog 5 #[.agg #[.int .i64 2, .float .f64 0, .string (tx s), .bool false], .agg #[.int .i64 2, .float .f64 0, .string (tx s), .bool false]] W fun e w' => e = .returned (.bool true) ∧ Below W.heap.size W w') := Lib.hid (fun W => by
    have h := wSame ⟨2, 0, s, false⟩ ⟨2, 0, s, false⟩ W
    rw [show psameV ⟨2, 0, s, false⟩ ⟨2, 0, s, false⟩ = true by unfold psameV; simp] at h
    exact h)
  have HAW := Lib.hid (fun W (h : MaxLn m W) => wawake m W h)
  have HMX := Lib.hid hm
  have HF := Lib.hid (And.intro f7 f8)
  have HNA : Hid ((isNan a = true ∧ NA = true) ∨ (isNan a = false ∧ isNan b = true ∧ NA = true) ∨ (isNan a = false ∧ isNan b = false ∧ NA = false)) := Lib.hid (by
    revert f6
    cases isNan a <;> cases isNan b <;> cases NA <;> simp)
  have HBEL : Hid (∀ o1 o2 o3, Below w.heap.size w (((w.alloc o1).alloc o2).alloc o3)) := Lib.hid (fun o1 o2 o3 => (((Below.refl w.heap.size w).alloc (Nat.le_refl _) o1).alloc (by simp) o2).alloc (by simp; omega) o3)
  have HVX : Hid (∀ o1 o2, VB (((w.alloc (.cells #[.int .i64 1, .float .f64 a, .string ⟨#[]⟩, .bool false] 25)).alloc o1).alloc o2) w.heap.size (.int .i64 1) (.float .f64 a) (.string ⟨#[]⟩) (.bool false)) := Lib.hid (fun o1 o2 => (heap_alloc_old _ _ (by simp; omega)).trans ((heap_alloc_old _ _ (by simp)).trans (heap_alloc_new _ _)))
  have HVY : Hid (∀ o1 o2, VB (((w.alloc o1).alloc (.cells #[.int .i64 1, .float .f64 b, .string ⟨#[]⟩, .bool false] 25)).alloc o2) (w.heap.size + 1) (.int .i64 1) (.float .f64 b) (.string ⟨#[]⟩) (.bool false)) := Lib.hid (fun o1 o2 => (heap_alloc_old _ _ (by simp)).trans (by simpa using heap_alloc_new (w.alloc o1) _))
  have HBR : Hid (∀ o1 o2, BndV (((w.alloc o1).alloc o2).alloc (.cells #[.string ⟨#[120]⟩, .int .i64 1, .float .f64 a, .string ⟨#[]⟩, .bool false, .string ⟨#[121]⟩, .int .i64 1, .float .f64 b, .string ⟨#[]⟩, .bool false] 27)) (.slice (some ⟨w.heap.size + 1 + 1, 0, none⟩) 2 2) (xyB a b)) := Lib.hid (fun o1 o2 => xy_row (by simpa using heap_alloc_new ((w.alloc o1).alloc o2) _))
  clear hm f1 f2 f3 f4 f5 f6 f7 f8 ha hb
  go_enter Try.func3, Try.ntmps3
  go_upto_region 3 with (fail)
  have HB0 := Lib.hid (HBEL.out (.cells #[.int .i64 1, .float .f64 a, .string ⟨#[]⟩, .bool false] 25) (.cells #[.int .i64 1, .float .f64 b, .string ⟨#[]⟩, .bool false] 25) (.cells #[.string ⟨#[120]⟩, .int .i64 1, .float .f64 a, .string ⟨#[]⟩, .bool false, .string ⟨#[121]⟩, .int .i64 1, .float .f64 b, .string ⟨#[]⟩, .bool false] 27))
  have HX0 := Lib.hid (HVX.out (.cells #[.int .i64 1, .float .f64 b, .string ⟨#[]⟩, .bool false] 25) (.cells #[.string ⟨#[120]⟩, .int .i64 1, .float .f64 a, .string ⟨#[]⟩, .bool false, .string ⟨#[121]⟩, .int .i64 1, .float .f64 b, .string ⟨#[]⟩, .bool false] 27))
  have HY0 := Lib.hid (HVY.out (.cells #[.int .i64 1, .float .f64 a, .string ⟨#[]⟩, .bool false] 25) (.cells #[.string ⟨#[120]⟩, .int .i64 1, .float .f64 a, .string ⟨#[]⟩, .bool false, .string ⟨#[121]⟩, .int .i64 1, .float .f64 b, .string ⟨#[]⟩, .bool false] 27))
  have HR0 := Lib.hid (HBR.out (.cells #[.int .i64 1, .float .f64 a, .string ⟨#[]⟩, .bool false] 25) (.cells #[.int .i64 1, .float .f64 b, .string ⟨#[]⟩, .bool false] 25))
  clear HBEL HVX HVY HBR
  generalize (((w.alloc (.cells #[.int .i64 1, .float .f64 a, .string ⟨#[]⟩, .bool false] 25)).alloc (.cells #[.int .i64 1, .float .f64 b, .string ⟨#[]⟩, .bool false] 25)).alloc (.cells #[.string ⟨#[120]⟩, .int .i64 1, .float .f64 a, .string ⟨#[]⟩, .bool false, .string ⟨#[121]⟩, .int .i64 1, .float .f64 b, .string ⟨#[]⟩, .bool false] 27)) = W0 at HB0 HX0 HY0 HR0 ⊢
  go_wp2_with (first | (go_at_call 4; fail))
  refine (HO1.out _ _ HR0.out (HMX.out.below HB0.out)).mono ?_
  rintro e w1 ⟨rfl, hb⟩
  have HB1 := Lib.hid (HB0.out.trans (below_le hb HB0.out.size))
  have HR1 := Lib.hid (HR0.out.below hb)
  have HX1 := Lib.hid (HX0.out.below hb)
  have HY1 := Lib.hid (HY0.out.below hb)
  clear hb HB0 HR0 HX0 HY0 HO1
  go_wp2_with (first | (go_at_call 4; fail))
  refine (HO2.out _ _ HR1.out (HMX.out.below HB1.out)).mono ?_
  rintro e w2 ⟨rfl, hb⟩
  have HB2 := Lib.hid (HB1.out.trans (below_le hb HB1.out.size))
  have HR2 := Lib.hid (HR1.out.below hb)
  have HX2 := Lib.hid (HX1.out.below hb)
  have HY2 := Lib.hid (HY1.out.below hb)
  clear hb HB1 HR1 HX1 HY1 HO2
  go_wp2_with (first | (go_at_call 4; fail))
  refine (HO3.out _ _ HR2.out (HMX.out.below HB2.out)).mono ?_
  rintro e w3 ⟨rfl, hb⟩
  have HB3 := Lib.hid (HB2.out.trans (below_le hb HB2.out.size))
  have HR3 := Lib.hid (HR2.out.below hb)
  have HX3 := Lib.hid (HX2.out.below hb)
  have HY3 := Lib.hid (HY2.out.below hb)
  clear hb HB2 HR2 HX2 HY2 HO3
  go_wp2_with (first | (go_at_call 4; fail))
  refine (HO4.out _ _ HR3.out (HMX.out.below HB3.out)).mono ?_
  rintro e w4 ⟨rfl, hb⟩
  have HB4 := Lib.hid (HB3.out.trans (below_le hb HB3.out.size))
  have HR4 := Lib.hid (HR3.out.below hb)
  have HX4 := Lib.hid (HX3.out.below hb)
  have HY4 := Lib.hid (HY3.out.below hb)
  clear hb HB3 HR3 HX3 HY3 HO4
  go_wp2_with (first | (go_at_call 4; fail))
  refine (HO5.out _ _ HR4.out (HMX.out.below HB4.out)).mono ?_
  rintro e w5 ⟨rfl, hb⟩
  have HB5 := Lib.hid (HB4.out.trans (below_le hb HB4.out.size))
  have HR5 := Lib.hid (HR4.out.below hb)
  have HX5 := Lib.hid (HX4.out.below hb)
  have HY5 := Lib.hid (HY4.out.below hb)
  clear hb HB4 HR4 HX4 HY4 HO5
  go_wp2_with (first | (go_at_call 4; fail))
  refine (HO6.out _ _ HR5.out (HMX.out.below HB5.out)).mono ?_
  rintro e w6 ⟨rfl, hb⟩
  have HB6 := Lib.hid (HB5.out.trans (below_le hb HB5.out.size))
  have HR6 := Lib.hid (HR5.out.below hb)
  have HX6 := Lib.hid (HX5.out.below hb)
  have HY6 := Lib.hid (HY5.out.below hb)
  clear hb HB5 HR5 HX5 HY5 HO6
  have HB7 : Hid (Below w.heap.size w (w6.alloc (.cells #[.bool LT, .bool EQ, .bool GT] 4))) := Lib.hid (HB6.out.trans (below_le ((Below.refl _ _).alloc (Nat.le_refl _) _) HB6.out.size))
  have h67 : Below w6.heap.size w6 (w6.alloc (.cells #[.bool LT, .bool EQ, .bool GT] 4)) := (Below.refl _ _).alloc (Nat.le_refl _) _
  have HX7 := Lib.hid (HX6.out.below h67)
  have HY7 := Lib.hid (HY6.out.below h67)
  have HL : Hid (∀ j b, [LT, EQ, GT][j]? = some b → (w6.alloc (.cells #[.bool LT, .bool EQ, .bool GT] 4)).cell? ⟨w6.heap.size, j, none⟩ = some (.bool b)) := Lib.hid (fun j b h => by
    have hh := heap_alloc_new w6 (.cells #[.bool LT, .bool EQ, .bool GT] 4)
    unfold World.cell?
    simp only
    rw [hh]
    match j, h with
    | 0, h => cases h; rfl
    | 1, h => cases h; rfl
    | 2, h => cases h; rfl
    | j + 3, h => cases h)
  clear h67 HB6 HX6 HY6 HR6
  go_wp2_with fail
  generalize (w6.alloc (.cells #[.bool LT, .bool EQ, .bool GT] 4)) = W7 at HB7 HX7 HY7 HL ⊢
  generalize w6.heap.size = g7 at HL ⊢
  go_loopw [22, 93] (fun n i wr => ∃ j : Nat, i = .int .i64 (j : Int) ∧ j ≤ 3 ∧ n = .int .i64 ((cntB ([LT, EQ, GT].take j) : Nat) : Int) ∧ W7 = wr) (fun _ i _ => 3 - (intOf i).toNat)
  case atStart => exact ⟨0, rfl, by omega, rfl, rfl⟩
  case round =>
    obtain ⟨j, rfl, hj, rfl, rfl⟩ := hrel
    by_cases q : j < 3
    · obtain ⟨B, hB⟩ : ∃ B, [LT, EQ, GT][j]? = some B := ⟨_, List.getElem?_eq_getElem q⟩
      have ce := HL.out j B hB
      have HST := Lib.hid (cnt_step hB)
      have HLE : Hid (cntB ([LT, EQ, GT].take j) ≤ 3) := Lib.hid (by
        have : ∀ l : List Bool, cntB l ≤ l.length := by
          intro l
          induction l with
          | nil => simp [cntB]
          | cons x r ih => simp only [cntB, List.length_cons]; split <;> omega
        have h2 := this ([LT, EQ, GT].take j)
        have h3 : ([LT, EQ, GT].take j).length ≤ 3 := by rw [List.length_take]; simp; omega
        omega)
      generalize cntB ([LT, EQ, GT].take j) = C at HST HLE ⊢
      have h3 := HLE.out
      clear hB
      cases B
      · go_wp2
        go_roundw
        case rel => exact ⟨j + 1, by go_num, by omega, by rw [HST.out]; rfl, by trivial⟩
        case measure => simp [intOf]; omega
      · go_wp2
        go_roundw
        case rel => exact ⟨j + 1, by go_num, by omega, by rw [HST.out]; go_num, by trivial⟩
        case measure => simp [intOf]; omega
    · obtain rfl : j = 3 := by omega
      rw [show [LT, EQ, GT].take 3 = [LT, EQ, GT] from rfl]
      clear HL q hj
      have hFF := HF.out
      have HZ : Hid (VB (W7.alloc (.cells #[.int .i64 2, .float .f64 0, .string (tx s), .bool false] 25)) W7.heap.size (.int .i64 2) (.float .f64 0) (.string (tx s)) (.bool false)) := Lib.hid (heap_alloc_new _ _)
      have h78 : Below W7.heap.size W7 (W7.alloc (.cells #[.int .i64 2, .float .f64 0, .string (tx s), .bool false] 25)) := (Below.refl _ _).alloc (Nat.le_refl _) _
      have HB8 := Lib.hid (HB7.out.trans (below_le h78 HB7.out.size))
      have HX8 := Lib.hid (HX7.out.below h78)
      have HY8 := Lib.hid (HY7.out.below h78)
      clear h78 HB7 HX7 HY7
      rcases HNA.out with ⟨hA, e⟩ | ⟨hA, hB, e⟩ | ⟨hA, hB, e⟩
      all_goals
        subst e
        cases LT <;> cases EQ <;> cases GT <;> first | exact absurd hFF (by decide) | skip
      all_goals
        clear hFF HF HNA
        first
          | have o1 : (FloatKind.f64.format.order a a != some .eq) = true := by rw [show FloatKind.f64.format = double from rfl, order_nan a a (.inl hA)]; rfl
          | have o1 : (FloatKind.f64.format.order a a != some .eq) = false := by rw [show FloatKind.f64.format = double from rfl, order_self hA]; rfl
        try first
          | have o2 : (FloatKind.f64.format.order b b != some .eq) = true := by rw [show FloatKind.f64.format = double from rfl, order_nan b b (.inl hB)]; rfl
          | have o2 : (FloatKind.f64.format.order b b != some .eq) = false := by rw [show FloatKind.f64.format = double from rfl, order_self hB]; rfl
        first
          | rw [show cntB [false, false, false] = 0 from rfl]
          | rw [show cntB [true, false, false] = 1 from rfl]
          | rw [show cntB [false, true, false] = 1 from rfl]
          | rw [show cntB [false, false, true] = 1 from rfl]
        try clear hA
        try clear hB
        go_upto_region 20 with (fail)
        generalize (W7.alloc (.cells #[.int .i64 2, .float .f64 0, .string (tx s), .bool false] 25)) = W8 at HB8 HX8 HY8 HZ ⊢
        generalize w.heap.size + 1 = gy at HY8 ⊢
        generalize W7.heap.size = gz at HZ ⊢
        generalize hgx : w.heap.size = gx at HX8 ⊢
        rw [hgx] at HB8
        have HRD : Hid (∀ W, Below W8.heap.size W8 W → Below W8.heap.size W8 W ∧ W.cell? ⟨gx, 0, none⟩ = some (.int .i64 1) ∧ W.cell? ⟨gx, 1, none⟩ = some (.float .f64 a) ∧ W.cell? ⟨gx, 2, none⟩ = some (.string ⟨#[]⟩) ∧ W.cell? ⟨gx, 3, none⟩ = some (.bool false) ∧ W.cell? ⟨gy, 0, none⟩ = some (.int .i64 1) ∧ W.cell? ⟨gy, 1, none⟩ = some (.float .f64 b) ∧ W.cell? ⟨gy, 2, none⟩ = some (.string ⟨#[]⟩) ∧ W.cell? ⟨gy, 3, none⟩ = some (.bool false) ∧ W.cell? ⟨gz, 0, none⟩ = some (.int .i64 2) ∧ W.cell? ⟨gz, 1, none⟩ = some (.float .f64 0) ∧ W.cell? ⟨gz, 2, none⟩ = some (.string (tx s)) ∧ W.cell? ⟨gz, 3, none⟩ = some (.bool false)) := Lib.hid (fun W hW => by
          obtain ⟨x0, x1, x2, x3⟩ := (HX8.out.below hW).cells
          obtain ⟨y0, y1, y2, y3⟩ := (HY8.out.below hW).cells
          obtain ⟨z0, z1, z2, z3⟩ := (HZ.out.below hW).cells
          exact ⟨hW, x0, x1, x2, x3, y0, y1, y2, y3, z0, z1, z2, z3⟩)
        have H1 : Hid (∀ W, Below W8.heap.size W8 W → Calls Try.prog 5 #[.agg #[.int .i64 1, .float .f64 a, .string ⟨#[]⟩, .bool false], .agg #[.int .i64 1, .float .f64 b, .string ⟨#[]⟩, .bool false]] W fun e w' => e = .returned (.bool (sameN a b)) ∧ Below W8.heap.size W8 w') := Lib.hid (fun W hW => (HS1.out W).mono fun e w' h => ⟨h.1, hW.trans (below_le h.2 hW.size)⟩)
        have H2 : Hid (∀ W, Below W8.heap.size W8 W → Calls Try.prog 6 #[.agg #[.int .i64 1, .float .f64 a, .string ⟨#[]⟩, .bool false], .agg #[.int .i64 1, .float .f64 b, .string ⟨#[]⟩, .bool false]] W fun e w' => e = .returned (.bool (sameN a b)) ∧ Below W8.heap.size W8 w') := Lib.hid (fun W hW => (HS2.out W).mono fun e w' h => ⟨h.1, hW.trans (below_le h.2 hW.size)⟩)
        have H3 : Hid (∀ W, Below W8.heap.size W8 W → Calls Try.prog 5 #[.agg #[.int .i64 1, .float .f64 a, .string ⟨#[]⟩, .bool false], .agg #[.int .i64 1, .float .f64 a, .string ⟨#[]⟩, .bool false]] W fun e w' => e = .returned (.bool (true)) ∧ Below W8.heap.size W8 w') := Lib.hid (fun W hW => (HS3.out W).mono fun e w' h => ⟨h.1, hW.trans (below_le h.2 hW.size)⟩)
        have H4 : Hid (∀ W, Below W8.heap.size W8 W → Calls Try.prog 5 #[.agg #[.int .i64 1, .float .f64 a, .string ⟨#[]⟩, .bool false], .agg #[.int .i64 2, .float .f64 0, .string (tx s), .bool false]] W fun e w' => e = .returned (.bool (false)) ∧ Below W8.heap.size W8 w') := Lib.hid (fun W hW => (HS4.out W).mono fun e w' h => ⟨h.1, hW.trans (below_le h.2 hW.size)⟩)
        have H5 : Hid (∀ W, Below W8.heap.size W8 W → Calls Try.prog 5 #[.agg #[.int .i64 2, .float .f64 0, .string (tx s), .bool false], .agg #[.int .i64 2, .float .f64 0, .string (tx s), .bool false]] W fun e w' => e = .returned (.bool (true)) ∧ Below W8.heap.size W8 w') := Lib.hid (fun W hW => (HS5.out W).mono fun e w' h => ⟨h.1, hW.trans (below_le h.2 hW.size)⟩)
        have H6 : Hid (∀ W, Below W8.heap.size W8 W → Calls Try.prog 7 #[] W fun e w' => e = .returned (.bool true) ∧ Below W8.heap.size W8 w') := Lib.hid (fun W hW => (HAW.out W ((HMX.out.below (by rw [hgx]; exact HB8.out)).below hW)).mono fun e w' h => ⟨h.1, hW.trans (below_le h.2 hW.size)⟩)
        have b1 : (sameN a b == sameN a b) = true := beq_self_eq_true _
        generalize sameN a b = SN at H1 H2 b1
        clear HS1 HS2 HS3 HS4 HS5 HAW HX8 HY8 HZ HMX
        have HS0 := Lib.hid (HRD.out W8.drew (Below.refl _ _).drew)
        refine wp_region_held (S := (fun W => Below W8.heap.size W8 W ∧ W.cell? ⟨gx, 0, none⟩ = some (.int .i64 1) ∧ W.cell? ⟨gx, 1, none⟩ = some (.float .f64 a) ∧ W.cell? ⟨gx, 2, none⟩ = some (.string ⟨#[]⟩) ∧ W.cell? ⟨gx, 3, none⟩ = some (.bool false) ∧ W.cell? ⟨gy, 0, none⟩ = some (.int .i64 1) ∧ W.cell? ⟨gy, 1, none⟩ = some (.float .f64 b) ∧ W.cell? ⟨gy, 2, none⟩ = some (.string ⟨#[]⟩) ∧ W.cell? ⟨gy, 3, none⟩ = some (.bool false) ∧ W.cell? ⟨gz, 0, none⟩ = some (.int .i64 2) ∧ W.cell? ⟨gz, 1, none⟩ = some (.float .f64 0) ∧ W.cell? ⟨gz, 2, none⟩ = some (.string (tx s)) ∧ W.cell? ⟨gz, 3, none⟩ = some (.bool false))) (by kernel_rfl) ?_
        change wpAnyH _ _ _ _ _ _ _ _ (World.drew _)
        refine wpAnyH_take (i := 0) (v := _) rfl (by kernel_rfl) (by kernel_rfl) (by kernel_rfl) (fun _ _ _ h => h) (Or.inl ⟨by rfl, by intro w hSw; (try dsimp only at hSw); go_simp; try (with_reducible rfl)⟩) HS0.out ?_
        try simp only [Act.put, List.setIfInBounds_toArray, List.set_cons_zero, List.set_cons_succ, List.getElem_toArray, List.getElem_cons_zero]
        refine wpAnyH_take (i := 1) (v := _) rfl (by kernel_rfl) (by kernel_rfl) (by kernel_rfl) (fun _ _ _ h => h) (Or.inl ⟨by rfl, by intro w hSw; (try dsimp only at hSw); go_simp; try (with_reducible rfl)⟩) HS0.out ?_
        try simp only [Act.put, List.setIfInBounds_toArray, List.set_cons_zero, List.set_cons_succ, List.getElem_toArray, List.getElem_cons_succ, List.getElem_cons_zero]
        refine wpAnyH_take (i := 2) (v := _) rfl (by kernel_rfl) (by kernel_rfl) (by kernel_rfl) (fun _ _ _ h => h) (Or.inl ⟨by rfl, by intro w hSw; (try dsimp only at hSw); go_simp; try (with_reducible rfl)⟩) HS0.out ?_
        try simp only [Act.put, List.setIfInBounds_toArray, List.set_cons_zero, List.set_cons_succ, List.getElem_toArray, List.getElem_cons_succ, List.getElem_cons_zero]
        refine wpAnyH_take (i := 3) (v := _) rfl (by kernel_rfl) (by kernel_rfl) (by kernel_rfl) (fun _ _ _ h => h) (Or.inl ⟨by rfl, by intro w hSw; (try dsimp only at hSw); go_simp; try (with_reducible rfl)⟩) HS0.out ?_
        try simp only [Act.put, List.setIfInBounds_toArray, List.set_cons_zero, List.set_cons_succ, List.getElem_toArray, List.getElem_cons_succ, List.getElem_cons_zero]
        refine wpAnyH_take (i := 4) (v := _) rfl (by kernel_rfl) (by kernel_rfl) (by kernel_rfl) (fun _ _ _ h => h) (Or.inl ⟨by rfl, by intro w hSw; (try dsimp only at hSw); go_simp; try (with_reducible rfl)⟩) HS0.out ?_
        try simp only [Act.put, List.setIfInBounds_toArray, List.set_cons_zero, List.set_cons_succ, List.getElem_toArray, List.getElem_cons_succ, List.getElem_cons_zero]
        refine wpAnyH_take (i := 5) (v := _) rfl (by kernel_rfl) (by kernel_rfl) (by kernel_rfl) (fun _ _ _ h => h) (Or.inl ⟨by rfl, by intro w hSw; (try dsimp only at hSw); go_simp; try (with_reducible rfl)⟩) HS0.out ?_
        try simp only [Act.put, List.setIfInBounds_toArray, List.set_cons_zero, List.set_cons_succ, List.getElem_toArray, List.getElem_cons_succ, List.getElem_cons_zero]
        refine wpAnyH_take (i := 6) (v := _) rfl (by kernel_rfl) (by kernel_rfl) (by kernel_rfl) (fun _ _ _ h => h) (Or.inl ⟨by rfl, by intro w hSw; (try dsimp only at hSw); go_simp; try (with_reducible rfl)⟩) HS0.out ?_
        try simp only [Act.put, List.setIfInBounds_toArray, List.set_cons_zero, List.set_cons_succ, List.getElem_toArray, List.getElem_cons_succ, List.getElem_cons_zero]
        refine wpAnyH_take (i := 7) (v := _) rfl (by kernel_rfl) (by kernel_rfl) (by kernel_rfl) (fun _ _ _ h => h) (Or.inl ⟨by rfl, by intro w hSw; (try dsimp only at hSw); go_simp; try (with_reducible rfl)⟩) HS0.out ?_
        try simp only [Act.put, List.setIfInBounds_toArray, List.set_cons_zero, List.set_cons_succ, List.getElem_toArray, List.getElem_cons_succ, List.getElem_cons_zero]
        refine wpAnyH_take (i := 8) (v := _) rfl (by kernel_rfl) (by kernel_rfl) (by kernel_rfl) (fun _ _ _ h => h) (Or.inl ⟨by rfl, by intro w hSw; (try dsimp only at hSw); go_simp; try (with_reducible rfl)⟩) HS0.out ?_
        try simp only [Act.put, List.setIfInBounds_toArray, List.set_cons_zero, List.set_cons_succ, List.getElem_toArray, List.getElem_cons_succ, List.getElem_cons_zero]
        refine wpAnyH_take (i := 9) (v := _) rfl (by kernel_rfl) (by kernel_rfl) (by kernel_rfl) (fun _ _ _ h => h) (Or.inl ⟨by rfl, by intro w hSw; (try dsimp only at hSw); go_simp; try (with_reducible rfl)⟩) HS0.out ?_
        try simp only [Act.put, List.setIfInBounds_toArray, List.set_cons_zero, List.set_cons_succ, List.getElem_toArray, List.getElem_cons_succ, List.getElem_cons_zero]
        refine wpAnyH_take (i := 10) (v := _) rfl (by kernel_rfl) (by kernel_rfl) (by kernel_rfl) (fun _ _ _ h => h) (Or.inl ⟨by rfl, by intro w hSw; (try dsimp only at hSw); go_simp; try (with_reducible rfl)⟩) HS0.out ?_
        try simp only [Act.put, List.setIfInBounds_toArray, List.set_cons_zero, List.set_cons_succ, List.getElem_toArray, List.getElem_cons_succ, List.getElem_cons_zero]
        refine wpAnyH_take (i := 11) (v := _) rfl (by kernel_rfl) (by kernel_rfl) (by kernel_rfl) (fun _ _ _ h => h) (Or.inl ⟨by rfl, by intro w hSw; (try dsimp only at hSw); go_simp; try (with_reducible rfl)⟩) HS0.out ?_
        try simp only [Act.put, List.setIfInBounds_toArray, List.set_cons_zero, List.set_cons_succ, List.getElem_toArray, List.getElem_cons_succ, List.getElem_cons_zero]
        refine wpAnyH_take (i := 12) (v := _) rfl (by kernel_rfl) (by kernel_rfl) (by kernel_rfl) (fun _ _ _ h => h) (Or.inl ⟨by rfl, by intro w hSw; (try dsimp only at hSw); go_simp; try (with_reducible rfl)⟩) HS0.out ?_
        try simp only [Act.put, List.setIfInBounds_toArray, List.set_cons_zero, List.set_cons_succ, List.getElem_toArray, List.getElem_cons_succ, List.getElem_cons_zero]
        refine wpAnyH_take (i := 13) (v := _) rfl (by kernel_rfl) (by kernel_rfl) (by kernel_rfl) (fun _ _ _ h => h) (Or.inl ⟨by rfl, by intro w hSw; (try dsimp only at hSw); go_simp; try (with_reducible rfl)⟩) HS0.out ?_
        try simp only [Act.put, List.setIfInBounds_toArray, List.set_cons_zero, List.set_cons_succ, List.getElem_toArray, List.getElem_cons_succ, List.getElem_cons_zero]
        refine wpAnyH_take (i := 14) (v := _) rfl (by kernel_rfl) (by kernel_rfl) (by kernel_rfl) (fun _ _ _ h => h) (Or.inl ⟨by rfl, by intro w hSw; (try dsimp only at hSw); go_simp; try (with_reducible rfl)⟩) HS0.out ?_
        try simp only [Act.put, List.setIfInBounds_toArray, List.set_cons_zero, List.set_cons_succ, List.getElem_toArray, List.getElem_cons_succ, List.getElem_cons_zero]
        refine wpAnyH_take (i := 15) (v := _) rfl (by kernel_rfl) (by kernel_rfl) (by kernel_rfl) (fun _ _ _ h => h) (Or.inl ⟨by rfl, by intro w hSw; (try dsimp only at hSw); go_simp; try (with_reducible rfl)⟩) HS0.out ?_
        try simp only [Act.put, List.setIfInBounds_toArray, List.set_cons_zero, List.set_cons_succ, List.getElem_toArray, List.getElem_cons_succ, List.getElem_cons_zero]
        refine wpAnyH_take (i := 16) (v := _) rfl (by kernel_rfl) (by kernel_rfl) (by kernel_rfl) (fun _ _ _ h => h) (Or.inl ⟨by rfl, by intro w hSw; (try dsimp only at hSw); go_simp; try (with_reducible rfl)⟩) HS0.out ?_
        try simp only [Act.put, List.setIfInBounds_toArray, List.set_cons_zero, List.set_cons_succ, List.getElem_toArray, List.getElem_cons_succ, List.getElem_cons_zero]
        refine wpAnyH_take (i := 17) (v := _) rfl (by kernel_rfl) (by kernel_rfl) (by kernel_rfl) (fun _ _ _ h => h) (Or.inl ⟨by rfl, by intro w hSw; (try dsimp only at hSw); go_simp; try (with_reducible rfl)⟩) HS0.out ?_
        try simp only [Act.put, List.setIfInBounds_toArray, List.set_cons_zero, List.set_cons_succ, List.getElem_toArray, List.getElem_cons_succ, List.getElem_cons_zero]
        refine wpAnyH_take (i := 18) (v := _) rfl (by kernel_rfl) (by kernel_rfl) (by kernel_rfl) (fun _ _ _ h => h) (Or.inl ⟨by rfl, by intro w hSw; (try dsimp only at hSw); go_simp; try (with_reducible rfl)⟩) HS0.out ?_
        try simp only [Act.put, List.setIfInBounds_toArray, List.set_cons_zero, List.set_cons_succ, List.getElem_toArray, List.getElem_cons_succ, List.getElem_cons_zero]
        refine wpAnyH_take (i := 19) (v := _) rfl (by kernel_rfl) (by kernel_rfl) (by kernel_rfl) (fun _ _ _ h => h) (Or.inl ⟨by rfl, by intro w hSw; (try dsimp only at hSw); go_simp; try (with_reducible rfl)⟩) HS0.out ?_
        try simp only [Act.put, List.setIfInBounds_toArray, List.set_cons_zero, List.set_cons_succ, List.getElem_toArray, List.getElem_cons_succ, List.getElem_cons_zero]
        refine wpAnyH_take (i := 20) (v := _) rfl (by kernel_rfl) (by kernel_rfl) (by kernel_rfl) (fun _ _ _ h => h) (Or.inl ⟨by rfl, by intro w hSw; (try dsimp only at hSw); go_simp; try (with_reducible rfl)⟩) HS0.out ?_
        try simp only [Act.put, List.setIfInBounds_toArray, List.set_cons_zero, List.set_cons_succ, List.getElem_toArray, List.getElem_cons_succ, List.getElem_cons_zero]
        first | (refine wpAnyH_take (i := 21) (v := _) rfl (by kernel_rfl) (by kernel_rfl) (by kernel_rfl) (fun _ _ _ h => h) (Or.inl ⟨by rfl, by intro w hSw; (try dsimp only at hSw); go_simp; try (with_reducible rfl)⟩) HS0.out ?_) | (refine wpAnyH_take (i := 21) (v := _) rfl (by kernel_rfl) (by kernel_rfl) (by kernel_rfl) (fun _ _ _ h => h) (Or.inr ⟨by rfl, rfl⟩) HS0.out ?_)
        try simp only [Act.put, List.setIfInBounds_toArray, List.set_cons_zero, List.set_cons_succ, List.getElem_toArray, List.getElem_cons_succ, List.getElem_cons_zero]
        refine wpAnyH_take (i := 22) (v := _) rfl (by kernel_rfl) (by kernel_rfl) (by kernel_rfl) (fun _ _ _ h => h) (Or.inl ⟨by rfl, by intro w hSw; (try dsimp only at hSw); go_simp; try (with_reducible rfl)⟩) HS0.out ?_
        try simp only [Act.put, List.setIfInBounds_toArray, List.set_cons_zero, List.set_cons_succ, List.getElem_toArray, List.getElem_cons_succ, List.getElem_cons_zero]
        refine wpAnyH_take (i := 23) (v := _) rfl (by kernel_rfl) (by kernel_rfl) (by kernel_rfl) (fun _ _ _ h => h) (Or.inl ⟨by rfl, by intro w hSw; (try dsimp only at hSw); go_simp; try (with_reducible rfl)⟩) HS0.out ?_
        try simp only [Act.put, List.setIfInBounds_toArray, List.set_cons_zero, List.set_cons_succ, List.getElem_toArray, List.getElem_cons_succ, List.getElem_cons_zero]
        refine wpAnyH_take (i := 24) (v := _) rfl (by kernel_rfl) (by kernel_rfl) (by kernel_rfl) (fun _ _ _ h => h) (Or.inl ⟨by rfl, by intro w hSw; (try dsimp only at hSw); go_simp; try (with_reducible rfl)⟩) HS0.out ?_
        try simp only [Act.put, List.setIfInBounds_toArray, List.set_cons_zero, List.set_cons_succ, List.getElem_toArray, List.getElem_cons_succ, List.getElem_cons_zero]
        refine wpAnyH_take (i := 25) (v := _) rfl (by kernel_rfl) (by kernel_rfl) (by kernel_rfl) (fun _ _ _ h => h) (Or.inl ⟨by rfl, by intro w hSw; (try dsimp only at hSw); go_simp; try (with_reducible rfl)⟩) HS0.out ?_
        try simp only [Act.put, List.setIfInBounds_toArray, List.set_cons_zero, List.set_cons_succ, List.getElem_toArray, List.getElem_cons_succ, List.getElem_cons_zero]
        refine wpAnyH_take (i := 26) (v := _) rfl (by kernel_rfl) (by kernel_rfl) (by kernel_rfl) (fun _ _ _ h => h) (Or.inl ⟨by rfl, by intro w hSw; (try dsimp only at hSw); go_simp; try (with_reducible rfl)⟩) HS0.out ?_
        try simp only [Act.put, List.setIfInBounds_toArray, List.set_cons_zero, List.set_cons_succ, List.getElem_toArray, List.getElem_cons_succ, List.getElem_cons_zero]
        refine wpAnyH_take (i := 27) (v := _) rfl (by kernel_rfl) (by kernel_rfl) (by kernel_rfl) (fun _ _ _ h => h) (Or.inl ⟨by rfl, by intro w hSw; (try dsimp only at hSw); go_simp; try (with_reducible rfl)⟩) HS0.out ?_
        try simp only [Act.put, List.setIfInBounds_toArray, List.set_cons_zero, List.set_cons_succ, List.getElem_toArray, List.getElem_cons_succ, List.getElem_cons_zero]
        refine wpAnyH_take (i := 28) (v := _) rfl (by kernel_rfl) (by kernel_rfl) (by kernel_rfl) (fun _ _ _ h => h) (Or.inl ⟨by rfl, by intro w hSw; (try dsimp only at hSw); go_simp; try (with_reducible rfl)⟩) HS0.out ?_
        try simp only [Act.put, List.setIfInBounds_toArray, List.set_cons_zero, List.set_cons_succ, List.getElem_toArray, List.getElem_cons_succ, List.getElem_cons_zero]
        first | (refine wpAnyH_take (i := 29) (v := _) rfl (by kernel_rfl) (by kernel_rfl) (by kernel_rfl) (fun _ _ _ h => h) (Or.inl ⟨by rfl, by intro w hSw; (try dsimp only at hSw); go_simp; try (with_reducible rfl)⟩) HS0.out ?_) | (refine wpAnyH_take (i := 29) (v := _) rfl (by kernel_rfl) (by kernel_rfl) (by kernel_rfl) (fun _ _ _ h => h) (Or.inr ⟨by rfl, rfl⟩) HS0.out ?_)
        try simp only [Act.put, List.setIfInBounds_toArray, List.set_cons_zero, List.set_cons_succ, List.getElem_toArray, List.getElem_cons_succ, List.getElem_cons_zero]
        refine wpAnyH_take (i := 30) (v := _) rfl (by kernel_rfl) (by kernel_rfl) (by kernel_rfl) (fun _ _ _ h => h) (Or.inl ⟨by rfl, by intro w hSw; (try dsimp only at hSw); go_simp; try (with_reducible rfl)⟩) HS0.out ?_
        try simp only [Act.put, List.setIfInBounds_toArray, List.set_cons_zero, List.set_cons_succ, List.getElem_toArray, List.getElem_cons_succ, List.getElem_cons_zero]
        refine wpAnyH_take (i := 31) (v := _) rfl (by kernel_rfl) (by kernel_rfl) (by kernel_rfl) (fun _ _ _ h => h) (Or.inl ⟨by rfl, by intro w hSw; (try dsimp only at hSw); go_simp; try (with_reducible rfl)⟩) HS0.out ?_
        try simp only [Act.put, List.setIfInBounds_toArray, List.set_cons_zero, List.set_cons_succ, List.getElem_toArray, List.getElem_cons_succ, List.getElem_cons_zero]
        refine wpAnyH_take (i := 32) (v := _) rfl (by kernel_rfl) (by kernel_rfl) (by kernel_rfl) (fun _ _ _ h => h) (Or.inl ⟨by rfl, by intro w hSw; (try dsimp only at hSw); go_simp; try (with_reducible rfl)⟩) HS0.out ?_
        try simp only [Act.put, List.setIfInBounds_toArray, List.set_cons_zero, List.set_cons_succ, List.getElem_toArray, List.getElem_cons_succ, List.getElem_cons_zero]
        refine wpAnyH_take (i := 33) (v := _) rfl (by kernel_rfl) (by kernel_rfl) (by kernel_rfl) (fun _ _ _ h => h) (Or.inl ⟨by rfl, by intro w hSw; (try dsimp only at hSw); go_simp; try (with_reducible rfl)⟩) HS0.out ?_
        try simp only [Act.put, List.setIfInBounds_toArray, List.set_cons_zero, List.set_cons_succ, List.getElem_toArray, List.getElem_cons_succ, List.getElem_cons_zero]
        refine wpAnyH_take (i := 34) (v := _) rfl (by kernel_rfl) (by kernel_rfl) (by kernel_rfl) (fun _ _ _ h => h) (Or.inl ⟨by rfl, by intro w hSw; (try dsimp only at hSw); go_simp; try (with_reducible rfl)⟩) HS0.out ?_
        try simp only [Act.put, List.setIfInBounds_toArray, List.set_cons_zero, List.set_cons_succ, List.getElem_toArray, List.getElem_cons_succ, List.getElem_cons_zero]
        refine wpAnyH_take (i := 35) (v := _) rfl (by kernel_rfl) (by kernel_rfl) (by kernel_rfl) (fun _ _ _ h => h) (Or.inl ⟨by rfl, by intro w hSw; (try dsimp only at hSw); go_simp; try (with_reducible rfl)⟩) HS0.out ?_
        try simp only [Act.put, List.setIfInBounds_toArray, List.set_cons_zero, List.set_cons_succ, List.getElem_toArray, List.getElem_cons_succ, List.getElem_cons_zero]
        refine wpAnyH_take (i := 37) (v := _) rfl (by kernel_rfl) (by kernel_rfl) (by kernel_rfl) (fun _ _ _ h => h) (Or.inl ⟨by rfl, by intro w hSw; (try dsimp only at hSw); go_simp; try (with_reducible rfl)⟩) HS0.out ?_
        try simp only [Act.put, List.setIfInBounds_toArray, List.set_cons_zero, List.set_cons_succ, List.getElem_toArray, List.getElem_cons_succ, List.getElem_cons_zero]
        refine wpAnyH_take (i := 38) (v := _) rfl (by kernel_rfl) (by kernel_rfl) (by kernel_rfl) (fun _ _ _ h => h) (Or.inl ⟨by rfl, by intro w hSw; (try dsimp only at hSw); go_simp; try (with_reducible rfl)⟩) HS0.out ?_
        try simp only [Act.put, List.setIfInBounds_toArray, List.set_cons_zero, List.set_cons_succ, List.getElem_toArray, List.getElem_cons_succ, List.getElem_cons_zero]
        refine wpAnyH_ready (rs := [36]) (by kernel_rfl) (by simp) ?_
        refine AllReadyH.cons rfl (fun K hK => ?_) AllReadyH.nil
        go_simp
        go_wp2_with (first | (go_at_call 5; fail))
        refine (H1.out _ (Below.refl _ _).drew).mono ?_
        rintro e y1 ⟨rfl, hb⟩
        have HQ1 := Lib.hid hb
        have HS1 := Lib.hid (HRD.out y1 hb)
        clear hb
        refine hK.out _ _ HS1.out (fun _ => ?_)
        clear hK K
        try simp only [Act.put, List.setIfInBounds_toArray, List.set_cons_zero, List.set_cons_succ, List.getElem_toArray, List.getElem_cons_succ, List.getElem_cons_zero]
        refine wpAnyH_ready (rs := [39]) (by kernel_rfl) (by simp) ?_
        refine AllReadyH.cons rfl (fun K hK => ?_) AllReadyH.nil
        go_simp
        go_wp2_with (first | (go_at_call 6; fail))
        refine (H2.out _ HQ1.out).mono ?_
        rintro e y2 ⟨rfl, hb⟩
        have HQ2 := Lib.hid hb
        have HS2 := Lib.hid (HRD.out y2 hb)
        clear hb
        refine hK.out _ _ HS2.out (fun _ => ?_)
        clear hK K
        try simp only [Act.put, List.setIfInBounds_toArray, List.set_cons_zero, List.set_cons_succ, List.getElem_toArray, List.getElem_cons_succ, List.getElem_cons_zero]
        refine wpAnyH_take (i := 40) (v := _) rfl (by kernel_rfl) (by kernel_rfl) (by kernel_rfl) (fun _ _ _ h => h) (Or.inl ⟨by rfl, by intro w hSw; (try dsimp only at hSw); go_simp; try (with_reducible rfl)⟩) HS2.out ?_
        try simp only [Act.put, List.setIfInBounds_toArray, List.set_cons_zero, List.set_cons_succ, List.getElem_toArray, List.getElem_cons_succ, List.getElem_cons_zero]
        refine wpAnyH_take (i := 41) (v := _) rfl (by kernel_rfl) (by kernel_rfl) (by kernel_rfl) (fun _ _ _ h => h) (Or.inl ⟨by rfl, by intro w hSw; (try dsimp only at hSw); go_simp; try (with_reducible rfl)⟩) HS2.out ?_
        try simp only [Act.put, List.setIfInBounds_toArray, List.set_cons_zero, List.set_cons_succ, List.getElem_toArray, List.getElem_cons_succ, List.getElem_cons_zero]
        refine wpAnyH_take (i := 42) (v := _) rfl (by kernel_rfl) (by kernel_rfl) (by kernel_rfl) (fun _ _ _ h => h) (Or.inl ⟨by rfl, by intro w hSw; (try dsimp only at hSw); go_simp; try (with_reducible rfl)⟩) HS2.out ?_
        try simp only [Act.put, List.setIfInBounds_toArray, List.set_cons_zero, List.set_cons_succ, List.getElem_toArray, List.getElem_cons_succ, List.getElem_cons_zero]
        refine wpAnyH_take (i := 43) (v := _) rfl (by kernel_rfl) (by kernel_rfl) (by kernel_rfl) (fun _ _ _ h => h) (Or.inl ⟨by rfl, by intro w hSw; (try dsimp only at hSw); go_simp; try (with_reducible rfl)⟩) HS2.out ?_
        try simp only [Act.put, List.setIfInBounds_toArray, List.set_cons_zero, List.set_cons_succ, List.getElem_toArray, List.getElem_cons_succ, List.getElem_cons_zero]
        refine wpAnyH_take (i := 44) (v := _) rfl (by kernel_rfl) (by kernel_rfl) (by kernel_rfl) (fun _ _ _ h => h) (Or.inl ⟨by rfl, by intro w hSw; (try dsimp only at hSw); go_simp; try (with_reducible rfl)⟩) HS2.out ?_
        try simp only [Act.put, List.setIfInBounds_toArray, List.set_cons_zero, List.set_cons_succ, List.getElem_toArray, List.getElem_cons_succ, List.getElem_cons_zero]
        refine wpAnyH_ready (rs := [45]) (by kernel_rfl) (by simp) ?_
        refine AllReadyH.cons rfl (fun K hK => ?_) AllReadyH.nil
        go_simp
        go_wp2_with (first | (go_at_call 5; fail))
        refine (H3.out _ HQ2.out).mono ?_
        rintro e y3 ⟨rfl, hb⟩
        have HQ3 := Lib.hid hb
        have HS3 := Lib.hid (HRD.out y3 hb)
        clear hb
        refine hK.out _ _ HS3.out (fun _ => ?_)
        clear hK K
        try simp only [Act.put, List.setIfInBounds_toArray, List.set_cons_zero, List.set_cons_succ, List.getElem_toArray, List.getElem_cons_succ, List.getElem_cons_zero]
        refine wpAnyH_take (i := 46) (v := _) rfl (by kernel_rfl) (by kernel_rfl) (by kernel_rfl) (fun _ _ _ h => h) (Or.inl ⟨by rfl, by intro w hSw; (try dsimp only at hSw); go_simp; try (with_reducible rfl)⟩) HS3.out ?_
        try simp only [Act.put, List.setIfInBounds_toArray, List.set_cons_zero, List.set_cons_succ, List.getElem_toArray, List.getElem_cons_succ, List.getElem_cons_zero]
        refine wpAnyH_take (i := 47) (v := _) rfl (by kernel_rfl) (by kernel_rfl) (by kernel_rfl) (fun _ _ _ h => h) (Or.inl ⟨by rfl, by intro w hSw; (try dsimp only at hSw); go_simp; try (with_reducible rfl)⟩) HS3.out ?_
        try simp only [Act.put, List.setIfInBounds_toArray, List.set_cons_zero, List.set_cons_succ, List.getElem_toArray, List.getElem_cons_succ, List.getElem_cons_zero]
        refine wpAnyH_take (i := 48) (v := _) rfl (by kernel_rfl) (by kernel_rfl) (by kernel_rfl) (fun _ _ _ h => h) (Or.inl ⟨by rfl, by intro w hSw; (try dsimp only at hSw); go_simp; try (with_reducible rfl)⟩) HS3.out ?_
        try simp only [Act.put, List.setIfInBounds_toArray, List.set_cons_zero, List.set_cons_succ, List.getElem_toArray, List.getElem_cons_succ, List.getElem_cons_zero]
        refine wpAnyH_take (i := 49) (v := _) rfl (by kernel_rfl) (by kernel_rfl) (by kernel_rfl) (fun _ _ _ h => h) (Or.inl ⟨by rfl, by intro w hSw; (try dsimp only at hSw); go_simp; try (with_reducible rfl)⟩) HS3.out ?_
        try simp only [Act.put, List.setIfInBounds_toArray, List.set_cons_zero, List.set_cons_succ, List.getElem_toArray, List.getElem_cons_succ, List.getElem_cons_zero]
        refine wpAnyH_ready (rs := [50]) (by kernel_rfl) (by simp) ?_
        refine AllReadyH.cons rfl (fun K hK => ?_) AllReadyH.nil
        go_simp
        go_wp2_with (first | (go_at_call 5; fail))
        refine (H4.out _ HQ3.out).mono ?_
        rintro e y4 ⟨rfl, hb⟩
        have HQ4 := Lib.hid hb
        have HS4 := Lib.hid (HRD.out y4 hb)
        clear hb
        refine hK.out _ _ HS4.out (fun _ => ?_)
        clear hK K
        try simp only [Act.put, List.setIfInBounds_toArray, List.set_cons_zero, List.set_cons_succ, List.getElem_toArray, List.getElem_cons_succ, List.getElem_cons_zero]
        refine wpAnyH_take (i := 51) (v := _) rfl (by kernel_rfl) (by kernel_rfl) (by kernel_rfl) (fun _ _ _ h => h) (Or.inl ⟨by rfl, by intro w hSw; (try dsimp only at hSw); go_simp; try (with_reducible rfl)⟩) HS4.out ?_
        try simp only [Act.put, List.setIfInBounds_toArray, List.set_cons_zero, List.set_cons_succ, List.getElem_toArray, List.getElem_cons_succ, List.getElem_cons_zero]
        refine wpAnyH_take (i := 52) (v := _) rfl (by kernel_rfl) (by kernel_rfl) (by kernel_rfl) (fun _ _ _ h => h) (Or.inl ⟨by rfl, by intro w hSw; (try dsimp only at hSw); go_simp; try (with_reducible rfl)⟩) HS4.out ?_
        try simp only [Act.put, List.setIfInBounds_toArray, List.set_cons_zero, List.set_cons_succ, List.getElem_toArray, List.getElem_cons_succ, List.getElem_cons_zero]
        refine wpAnyH_take (i := 53) (v := _) rfl (by kernel_rfl) (by kernel_rfl) (by kernel_rfl) (fun _ _ _ h => h) (Or.inl ⟨by rfl, by intro w hSw; (try dsimp only at hSw); go_simp; try (with_reducible rfl)⟩) HS4.out ?_
        try simp only [Act.put, List.setIfInBounds_toArray, List.set_cons_zero, List.set_cons_succ, List.getElem_toArray, List.getElem_cons_succ, List.getElem_cons_zero]
        refine wpAnyH_take (i := 54) (v := _) rfl (by kernel_rfl) (by kernel_rfl) (by kernel_rfl) (fun _ _ _ h => h) (Or.inl ⟨by rfl, by intro w hSw; (try dsimp only at hSw); go_simp; try (with_reducible rfl)⟩) HS4.out ?_
        try simp only [Act.put, List.setIfInBounds_toArray, List.set_cons_zero, List.set_cons_succ, List.getElem_toArray, List.getElem_cons_succ, List.getElem_cons_zero]
        refine wpAnyH_take (i := 55) (v := _) rfl (by kernel_rfl) (by kernel_rfl) (by kernel_rfl) (fun _ _ _ h => h) (Or.inl ⟨by rfl, by intro w hSw; (try dsimp only at hSw); go_simp; try (with_reducible rfl)⟩) HS4.out ?_
        try simp only [Act.put, List.setIfInBounds_toArray, List.set_cons_zero, List.set_cons_succ, List.getElem_toArray, List.getElem_cons_succ, List.getElem_cons_zero]
        refine wpAnyH_ready (rs := [56]) (by kernel_rfl) (by simp) ?_
        refine AllReadyH.cons rfl (fun K hK => ?_) AllReadyH.nil
        go_simp
        go_wp2_with (first | (go_at_call 5; fail))
        refine (H5.out _ HQ4.out).mono ?_
        rintro e y5 ⟨rfl, hb⟩
        have HQ5 := Lib.hid hb
        have HS5 := Lib.hid (HRD.out y5 hb)
        clear hb
        refine hK.out _ _ HS5.out (fun _ => ?_)
        clear hK K
        try simp only [Act.put, List.setIfInBounds_toArray, List.set_cons_zero, List.set_cons_succ, List.getElem_toArray, List.getElem_cons_succ, List.getElem_cons_zero]
        refine wpAnyH_take (i := 57) (v := _) rfl (by kernel_rfl) (by kernel_rfl) (by kernel_rfl) (fun _ _ _ h => h) (Or.inl ⟨by rfl, by intro w hSw; (try dsimp only at hSw); go_simp; try (with_reducible rfl)⟩) HS5.out ?_
        try simp only [Act.put, List.setIfInBounds_toArray, List.set_cons_zero, List.set_cons_succ, List.getElem_toArray, List.getElem_cons_succ, List.getElem_cons_zero]
        refine wpAnyH_take (i := 58) (v := _) rfl (by kernel_rfl) (by kernel_rfl) (by kernel_rfl) (fun _ _ _ h => h) (Or.inl ⟨by rfl, by intro w hSw; (try dsimp only at hSw); go_simp; try (with_reducible rfl)⟩) HS5.out ?_
        try simp only [Act.put, List.setIfInBounds_toArray, List.set_cons_zero, List.set_cons_succ, List.getElem_toArray, List.getElem_cons_succ, List.getElem_cons_zero]
        refine wpAnyH_ready (rs := [59]) (by kernel_rfl) (by simp) ?_
        refine AllReadyH.cons rfl (fun K hK => ?_) AllReadyH.nil
        go_simp
        go_wp2_with (first | (go_at_call 7; fail))
        refine (H6.out _ HQ5.out).mono ?_
        rintro e y6 ⟨rfl, hb⟩
        have HQ6 := Lib.hid hb
        have HS6 := Lib.hid (HRD.out y6 hb)
        clear hb
        refine hK.out _ _ HS6.out (fun _ => ?_)
        clear hK K
        try simp only [Act.put, List.setIfInBounds_toArray, List.set_cons_zero, List.set_cons_succ, List.getElem_toArray, List.getElem_cons_succ, List.getElem_cons_zero]
        refine wpAnyH_take (i := 60) (v := _) rfl (by kernel_rfl) (by kernel_rfl) (by kernel_rfl) (fun _ _ _ h => h) (Or.inl ⟨by rfl, by intro w hSw; (try dsimp only at hSw); go_simp; try (with_reducible rfl)⟩) HS6.out ?_
        try simp only [Act.put, List.setIfInBounds_toArray, List.set_cons_zero, List.set_cons_succ, List.getElem_toArray, List.getElem_cons_succ, List.getElem_cons_zero]
        refine wpAnyH_take (i := 61) (v := _) rfl (by kernel_rfl) (by kernel_rfl) (by kernel_rfl) (fun _ _ _ h => h) (Or.inl ⟨by rfl, by intro w hSw; (try dsimp only at hSw); go_simp; try (with_reducible rfl)⟩) HS6.out ?_
        try simp only [Act.put, List.setIfInBounds_toArray, List.set_cons_zero, List.set_cons_succ, List.getElem_toArray, List.getElem_cons_succ, List.getElem_cons_zero]
        refine wpAnyH_done (by kernel_rfl) ?_ _
        go_wp2
        go_ret
        exact ⟨rfl, by subst hgx; exact HB8.out.trans (below_le HQ6.out HB8.out.size)⟩
theorem orders_any (a b : Nat) (s : ByteArray) (w : World) (ha : a < 18446744073709551616) (hb : b < 18446744073709551616) (hm : ∃ m, MaxLn m w) : Calls Try.prog 3 #[.float .f64 a, .float .f64 b, .string s] w fun e w' => e = .returned (.bool true) ∧ Below w.heap.size w w' := by
  obtain ⟨m, hm⟩ := hm
  have h := orders_tx a b (by simpa using ha) (by simpa using hb) s.data.toList m w hm
  rw [tx_data] at h
  exact h
end Go.Proofs.Ytmhfnpabgkkjaaa
