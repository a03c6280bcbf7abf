/- Own texts, merged: SH, U2. -/
import Derived.Shelf.Vars
import Derived.HandedShaped
import Derived.Test.YtmhfnpabgkkjaaaRM
import Derived.Test.YtmhfnpabgkkjaaaU1
import Derived.Test.YtmhfnpabgkkjaaaMP52
/- Walks: the page's example, cut; the law RuleParses. -/
namespace Go.Proofs.Ytmhfnpabgkkjaaa
open Go.RowKit Go.Shelf Ieee
attribute [local go_sem] run_store_float
theorem maxLn_of {w : World} (h : w.ShapedOpen Try.prog) : ∃ m, MaxLn m w :=
  Go.Proofs.cell_of_shapedOpen_int (zero := #[.int .i64 0]) (t := 3) h (of_decide_eq_true (by kernel_rfl)) (by kernel_rfl) rfl (by kernel_rfl) (by kernel_rfl) Try.underlying3
theorem MaxLn.lt {m : Int} {w : World} (h : MaxLn m w) : 1 < w.heap.size := cell_lt h
theorem exB_ok : BOk exB := ⟨by decide, fun b hb => by
  rcases List.mem_cons.1 hb with rfl | hb
  · decide
  · cases hb⟩
theorem nil_ok : BOk [] := ⟨by decide, fun b hb => by cases hb⟩
theorem exB_row {w : World} {g : Nat} (h : w.heap[g]? = some (.cells #[.string ⟨#[120]⟩, .int .i64 2, .float .f64 0, .string ⟨#[98, 99, 100]⟩, .bool false] 27 (0, 0))) : BndV w (.slice (some ⟨g, 0, none⟩) 1 1) exB := by
  refine ⟨_, 1, rfl, Nat.le_refl _, (fun e => by cases e), fun a ha => ?_⟩
  cases ha
  refine ⟨fun _ => (Array.getElem?_eq_some_iff.1 h).1, fun i b hi => ?_⟩
  match i, hi with
  | 0, hi =>
    cases hi
    exact ⟨by rw [addr_add]; simp [World.cell?, h]; rfl, by rw [addr_add]; simp [World.cell?, h], by rw [addr_add]; simp [World.cell?, h], by rw [addr_add]; simp [World.cell?, h]; rfl, by rw [addr_add]; simp [World.cell?, h]⟩
set_option maxRecDepth 100000 in
set_option maxHeartbeats 4000000 in
theorem wawake (m : Int) (w : World) (hm : MaxLn m w) : Calls Try.prog 7 #[] w fun e w' => e = .returned (.bool true) ∧ Below w.heap.size w w' := by
  have HMX := Lib.hid hm
  have HP : Hid (∀ W, Calls Try.prog 8 #[.string ⟨#[108, 101, 110, 32, 120, 32, 62, 61, 32, 51]⟩] W fun e w' => ∃ v, e = .returned (.tuple #[v, .int .i64 190]) ∧ NodeV (fun b => W.heap.size ≤ b) w' v (parseP ex1).1 ∧ Below W.heap.size W w') := Lib.hid (fun W => by
    have h := wparse ex1 (by decide) W
    unfold ParseEnd at h
    rw [ex1_is] at h
    exact h)
  have H2 : Hid (∀ W v, BndV W v exB → MaxLn m W → Calls Try.prog 4 #[.string ⟨#[108, 101, 110, 40, 120, 41, 32, 62, 61, 32, 51, 32, 97, 110, 100, 32, 110, 111, 116, 32, 104, 97, 115, 40, 120, 44, 32, 39, 97, 39, 41]⟩, v] W fun e w' => e = .returned (.tuple #[.bool true, .int .i64 0]) ∧ Below W.heap.size W w') := Lib.hid (fun W v h1 h2 => by
    have h := wHolds exB exB_ok v ex2 (by decide) m W h1 h2
    rw [ex2_is] at h
    exact h)
  have H3 : Hid (∀ W, MaxLn m W → Calls Try.prog 4 #[.string ⟨#[49, 32, 47, 32, 48, 32, 62, 32, 53]⟩, .slice none 0 0] W fun e w' => e = .returned (.tuple #[.bool true, .int .i64 0]) ∧ Below W.heap.size W w') := Lib.hid (fun W h2 => by
    have h := wHolds [] nil_ok _ ex3 (by decide) m W (BndV.nil W) h2
    rw [ex3_is] at h
    exact h)
  have H4 : Hid (∀ W, MaxLn m W → Calls Try.prog 4 #[.string ⟨#[48, 32, 47, 32, 48, 32, 61, 32, 48, 32, 47, 32, 48]⟩, .slice none 0 0] W fun e w' => e = .returned (.tuple #[.bool false, .int .i64 0]) ∧ Below W.heap.size W w') := Lib.hid (fun W h2 => by
    have h := wHolds [] nil_ok _ ex4 (by decide) m W (BndV.nil W) h2
    rw [ex4_is] at h
    exact h)
  have HB1 := Lib.hid (bel1 w (.cells #[.string ⟨#[120]⟩, .int .i64 2, .float .f64 0, .string ⟨#[98, 99, 100]⟩, .bool false] 27))
  have HX : Hid ((w.alloc (.cells #[.string ⟨#[120]⟩, .int .i64 2, .float .f64 0, .string ⟨#[98, 99, 100]⟩, .bool false] 27)).heap[w.heap.size]? = some (.cells #[.string ⟨#[120]⟩, .int .i64 2, .float .f64 0, .string ⟨#[98, 99, 100]⟩, .bool false] 27 (0, 0))) := Lib.hid (heap_alloc_new _ _)
  clear hm
  go_enter Try.func7, Try.ntmps7
  go_wp2_with (first | (go_at_call 8; fail))
  generalize w.alloc (.cells #[.string ⟨#[120]⟩, .int .i64 2, .float .f64 0, .string ⟨#[98, 99, 100]⟩, .bool false] 27) = W0 at HB1 HX ⊢
  go_at_call 8
  refine (HP.out W0).mono ?_
  rintro e w2 ⟨v2, rfl, hv2, hb2⟩
  obtain ⟨o, n, s, x, k, c, rfl⟩ := hv2.agg
  have hx2 := (hb2.block w.heap.size (Array.getElem?_eq_some_iff.1 HX.out).1).trans HX.out
  have hl2 := (Array.getElem?_eq_some_iff.1 hx2).1
  have c0 : w2.cell? ⟨w.heap.size, 0, none⟩ = some (.string ⟨#[120]⟩) := by simp [World.cell?, hx2]
  have c1 : w2.cell? ⟨w.heap.size, 1, none⟩ = some (.int .i64 2) := by simp [World.cell?, hx2]
  have c2 : w2.cell? ⟨w.heap.size, 2, none⟩ = some (.float .f64 0) := by simp [World.cell?, hx2]
  have c3 : w2.cell? ⟨w.heap.size, 3, none⟩ = some (.string ⟨#[98, 99, 100]⟩) := by simp [World.cell?, hx2]
  have c4 : w2.cell? ⟨w.heap.size, 4, none⟩ = some (.bool false) := by simp [World.cell?, hx2]
  have HB2 := Lib.hid (HB1.out.trans (below_le hb2 HB1.out.size))
  clear hx2 hb2 hv2 HP HX
  go_wp2_with (first | (go_at_call 4; fail))
  have HBR : Hid (BndV ((w2.alloc (.cells #[.string o, .float .f64 n, .string s, .slice x k c] 38)).alloc (.cells #[.string ⟨#[120]⟩, .int .i64 2, .float .f64 0, .string ⟨#[98, 99, 100]⟩, .bool false] 27)) (.slice (some ⟨w2.heap.size + 1, 0, none⟩) 1 1) exB) := Lib.hid (exB_row (by simpa using heap_alloc_new (w2.alloc (.cells #[.string o, .float .f64 n, .string s, .slice x k c] 38)) (.cells #[.string ⟨#[120]⟩, .int .i64 2, .float .f64 0, .string ⟨#[98, 99, 100]⟩, .bool false] 27)))
  have HB3 := Lib.hid ((HB2.out.alloc HB2.out.size (.cells #[.string o, .float .f64 n, .string s, .slice x k c] 38)).alloc (by have := HB2.out.size; simp; omega) (.cells #[.string ⟨#[120]⟩, .int .i64 2, .float .f64 0, .string ⟨#[98, 99, 100]⟩, .bool false] 27))
  refine (H2.out _ _ HBR.out (HMX.out.below HB3.out)).mono ?_
  rintro e w4 ⟨rfl, hb4⟩
  have HB4 := Lib.hid (HB3.out.trans (below_le hb4 HB3.out.size))
  clear hb4 HBR HB3 HB2 c0 c1 c2 c3 c4
  go_wp2_with (first | (go_at_call 4; fail))
  refine (H3.out _ (HMX.out.below HB4.out)).mono ?_
  rintro e w5 ⟨rfl, hb5⟩
  have HB5 := Lib.hid (HB4.out.trans (below_le hb5 HB4.out.size))
  clear hb5 HB4
  go_wp2_with (first | (go_at_call 4; fail))
  refine (H4.out _ (HMX.out.below HB5.out)).mono ?_
  rintro e w6 ⟨rfl, hb6⟩
  have HB6 := Lib.hid (HB5.out.trans (below_le hb6 HB5.out.size))
  clear hb6 HB5
  go_wp2
  go_ret
  exact ⟨rfl, HB6.out⟩
end Go.Proofs.Ytmhfnpabgkkjaaa
/- The law RuleOrders: what its six texts hold, in plain terms. -/
namespace Go.Proofs.Ytmhfnpabgkkjaaa
open Go.RowKit Go.Shelf Ieee
def xyB (a b : Nat) : List Bnd := [⟨[120], ⟨1, a, [], false⟩⟩, ⟨[121], ⟨1, b, [], false⟩⟩]
theorem xyB_ok (a b : Nat) : BOk (xyB a b) := ⟨by unfold xyB; simp, fun c hc => by
  unfold xyB at hc
  rcases List.mem_cons.1 hc with rfl | hc
  · simp
  · rcases List.mem_cons.1 hc with rfl | hc
    · simp
    · cases hc⟩
theorem xy_row {w : World} {g a b : Nat} (h : w.heap[g]? = some (.cells #[.string ⟨#[120]⟩, .int .i64 1, .float .f64 a, .string ⟨#[]⟩, .bool false, .string ⟨#[121]⟩, .int .i64 1, .float .f64 b, .string ⟨#[]⟩, .bool false] 27 (0, 0))) : BndV w (.slice (some ⟨g, 0, none⟩) 2 2) (xyB a b) := by
  refine ⟨_, 2, rfl, Nat.le_refl _, (fun e => by cases e), fun x hx => ?_⟩
  cases hx
  refine ⟨fun _ => (Array.getElem?_eq_some_iff.1 h).1, fun i c hi => ?_⟩
  match i, hi with
  | 0, hi =>
    cases hi
    exact ⟨by rw [addr_add]; simp [World.cell?, h]; rfl, by rw [addr_add]; simp [World.cell?, h], by rw [addr_add]; simp [World.cell?, h], by rw [addr_add]; simp [World.cell?, h]; rfl, by rw [addr_add]; simp [World.cell?, h]⟩
  | 1, hi =>
    cases hi
    exact ⟨by rw [addr_add]; simp [World.cell?, h]; rfl, by rw [addr_add]; simp [World.cell?, h], by rw [addr_add]; simp [World.cell?, h], by rw [addr_add]; simp [World.cell?, h]; rfl, by rw [addr_add]; simp [World.cell?, h]⟩
set_option maxRecDepth 100000 in
theorem ho_lt (a b : Nat) : hoP (xyB a b) [120, 32, 60, 32, 121] = (cmpA isLt (fA a) (fA b), 0) := by kernel_rfl
set_option maxRecDepth 100000 in
theorem ho_eq (a b : Nat) : hoP (xyB a b) [120, 32, 61, 32, 121] = (cmpA isEq (fA a) (fA b), 0) := by kernel_rfl
set_option maxRecDepth 100000 in
theorem ho_gt (a b : Nat) : hoP (xyB a b) [120, 32, 62, 32, 121] = (cmpA isGt (fA a) (fA b), 0) := by kernel_rfl
set_option maxRecDepth 100000 in
theorem ho_ne (a b : Nat) : hoP (xyB a b) [120, 32, 33, 61, 32, 121] = (!cmpA isEq (fA a) (fA b), 0) := by kernel_rfl
set_option maxRecDepth 100000 in
theorem ho_le (a b : Nat) : hoP (xyB a b) [120, 32, 60, 61, 32, 121] = (cmpA isLe (fA a) (fA b), 0) := by kernel_rfl
set_option maxRecDepth 100000 in
theorem ho_ge (a b : Nat) : hoP (xyB a b) [121, 32, 60, 61, 32, 120] = (cmpA isLe (fA b) (fA a), 0) := by kernel_rfl
/-- The four ways that two numbers stand to each other. -/
theorem four (a b : Nat) : ((isNan a = true ∨ isNan b = true) ∧ ∀ p, cmpA p (fA a) (fA b) = false ∧ cmpA p (fA b) (fA a) = false) ∨
    (isNan a = false ∧ isNan b = false ∧ ∃ c : Ordering, ∀ p, cmpA p (fA a) (fA b) = p c ∧ cmpA p (fA b) (fA a) = p c.swap) := by
  cases ha : isNan a
  · cases hb : isNan b
    · refine .inr ⟨rfl, rfl, compare (sv a) (sv b), fun p => ?_⟩
      rw [fA_num ha, fA_num hb]
      unfold cmpA
      have e1 : (match some a, some b with | some x, some y => (match double.order x y with | some c => p c | none => false) | _, _ => false) = (match double.order a b with | some c => p c | none => false) := rfl
      have e2 : (match some b, some a with | some x, some y => (match double.order x y with | some c => p c | none => false) | _, _ => false) = (match double.order b a with | some c => p c | none => false) := rfl
      refine ⟨e1.trans (by rw [order_val a b ha hb]), e2.trans ?_⟩
      rw [order_val b a hb ha]
      show p (compare (sv b) (sv a)) = _
      congr 1
      rcases Int.lt_trichotomy (sv a) (sv b) with h | h | h
      · rw [Int.compare_eq_lt.2 h, Int.compare_eq_gt.2 h]; rfl
      · rw [h]; simp
      · rw [Int.compare_eq_gt.2 h, Int.compare_eq_lt.2 h]; rfl
    · refine .inl ⟨.inr rfl, fun p => ?_⟩
      rw [fA_num ha, fA_nan hb]
      exact ⟨rfl, rfl⟩
  · refine .inl ⟨.inl rfl, fun p => ?_⟩
    rw [fA_nan ha]
    cases hb : isNan b
    · rw [fA_num hb]; exact ⟨rfl, rfl⟩
    · rw [fA_nan hb]; exact ⟨rfl, rfl⟩
end Go.Proofs.Ytmhfnpabgkkjaaa
