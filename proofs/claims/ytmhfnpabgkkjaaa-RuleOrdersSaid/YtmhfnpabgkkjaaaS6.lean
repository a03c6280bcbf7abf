/- Walks: made (over the Ops told apart), bound (printed by gen_s6.py). -/
import Derived.Test.YtmhfnpabgkkjaaaS5
namespace Go.Proofs.Ytmhfnpabgkkjaaa
open Go.RowKit Go.Shelf
attribute [local go_sem] run_store_float
theorem TyV.agg {w : World} {v : Value} {L : List Nat} (h : TyV w v L) : ∃ x n c, v = .slice x n c := by
  obtain ⟨x, cap, rfl, _⟩ := h; exact ⟨_, _, _, rfl⟩
set_option maxRecDepth 100000 in
set_option maxHeartbeats 8000000 in
theorem wmade (op : Bs) (v : Value) (L : List Nat) (hL : L.length ≤ 1000000) (h2 : op = weq ∨ op = wne → L.length = 2) (w : World) (h : TyV w v L) : Calls Try.prog 35 #[.string (tx op), v] w fun e w' => e = .returned (.int .i64 (madeT op L : Nat)) ∧ Below w.heap.size w w' := by
  have HA1 : Hid (Calls Try.prog 45 #[v, .int .i64 1] w fun e w' => e = .returned (.bool (allT 1 L)) ∧ w = w') := Lib.hid (wallT v L 1 hL w h)
  have HA2 : Hid (Calls Try.prog 45 #[v, .int .i64 2] w fun e w' => e = .returned (.bool (allT 2 L)) ∧ w = w') := Lib.hid (wallT v L 2 hL w h)
  have HA3 : Hid (Calls Try.prog 45 #[v, .int .i64 3] w fun e w' => e = .returned (.bool (allT 3 L)) ∧ w = w') := Lib.hid (wallT v L 3 hL w h)
  have HG1 : Hid (∀ c W, Calls Try.prog 44 #[.int .i64 1, .bool c] W fun e w' => e = .returned (.int .i64 (giv 1 c : Nat)) ∧ W = w') := Lib.hid (fun c W => wgiven 1 c W)
  have HG3 : Hid (∀ c W, Calls Try.prog 44 #[.int .i64 3, .bool c] W fun e w' => e = .returned (.int .i64 (giv 3 c : Nat)) ∧ W = w') := Lib.hid (fun c W => wgiven 3 c W)
  have HV := Lib.hid h
  have HH2 := Lib.hid h2
  obtain ⟨x, n, cp, rfl⟩ := h.agg
  clear h h2 hL
  rcases opcases op with ⟨ho, b0, b1, b2, b3, b4, b5, b6, b7, b8, b9, b10, b11, b12, b13, b14, b15, b16, b17, b18, b19⟩ | ⟨ho, b0, b1, b2, b3, b4, b5, b6, b7, b8, b9, b10, b11, b12, b13, b14, b15, b16, b17, b18, b19⟩ | ⟨ho, b0, b1, b2, b3, b4, b5, b6, b7, b8, b9, b10, b11, b12, b13, b14, b15, b16, b17, b18, b19⟩ | ⟨ho, b0, b1, b2, b3, b4, b5, b6, b7, b8, b9, b10, b11, b12, b13, b14, b15, b16, b17, b18, b19⟩ | ⟨ho, b0, b1, b2, b3, b4, b5, b6, b7, b8, b9, b10, b11, b12, b13, b14, b15, b16, b17, b18, b19⟩ | ⟨ho, b0, b1, b2, b3, b4, b5, b6, b7, b8, b9, b10, b11, b12, b13, b14, b15, b16, b17, b18, b19⟩ | ⟨ho, b0, b1, b2, b3, b4, b5, b6, b7, b8, b9, b10, b11, b12, b13, b14, b15, b16, b17, b18, b19⟩ | ⟨ho, b0, b1, b2, b3, b4, b5, b6, b7, b8, b9, b10, b11, b12, b13, b14, b15, b16, b17, b18, b19⟩ | ⟨ho, b0, b1, b2, b3, b4, b5, b6, b7, b8, b9, b10, b11, b12, b13, b14, b15, b16, b17, b18, b19⟩ | ⟨ho, b0, b1, b2, b3, b4, b5, b6, b7, b8, b9, b10, b11, b12, b13, b14, b15, b16, b17, b18, b19⟩ | ⟨ho, b0, b1, b2, b3, b4, b5, b6, b7, b8, b9, b10, b11, b12, b13, b14, b15, b16, b17, b18, b19⟩ | ⟨ho, b0, b1, b2, b3, b4, b5, b6, b7, b8, b9, b10, b11, b12, b13, b14, b15, b16, b17, b18, b19⟩ | ⟨ho, b0, b1, b2, b3, b4, b5, b6, b7, b8, b9, b10, b11, b12, b13, b14, b15, b16, b17, b18, b19⟩ | ⟨ho, b0, b1, b2, b3, b4, b5, b6, b7, b8, b9, b10, b11, b12, b13, b14, b15, b16, b17, b18, b19⟩ | ⟨ho, b0, b1, b2, b3, b4, b5, b6, b7, b8, b9, b10, b11, b12, b13, b14, b15, b16, b17, b18, b19⟩ | ⟨ho, b0, b1, b2, b3, b4, b5, b6, b7, b8, b9, b10, b11, b12, b13, b14, b15, b16, b17, b18, b19⟩ | ⟨ho, b0, b1, b2, b3, b4, b5, b6, b7, b8, b9, b10, b11, b12, b13, b14, b15, b16, b17, b18, b19⟩ | ⟨ho, b0, b1, b2, b3, b4, b5, b6, b7, b8, b9, b10, b11, b12, b13, b14, b15, b16, b17, b18, b19⟩ | ⟨ho, b0, b1, b2, b3, b4, b5, b6, b7, b8, b9, b10, b11, b12, b13, b14, b15, b16, b17, b18, b19⟩ | ⟨ho, b0, b1, b2, b3, b4, b5, b6, b7, b8, b9, b10, b11, b12, b13, b14, b15, b16, b17, b18, b19⟩ | ⟨ho, b0, b1, b2, b3, b4, b5, b6, b7, b8, b9, b10, b11, b12, b13, b14, b15, b16, b17, b18, b19⟩
  · have hM : madeT op L = giv 3 (allT 3 L) := by subst ho; unfold madeT; rw [if_neg (by decide), if_neg (by decide), if_neg (by decide), if_neg (by decide), if_neg (by decide)]
    rw [hM]
    clear ho hM HH2 HV
    generalize tx op = T at *
    go_enter Try.func35, Try.ntmps35
    go_wp2_with (first | (go_at_call 45; refine (HA3.out).mono ?_; rintro e w1 ⟨rfl, rfl⟩) | (go_at_call 44; refine (HG3.out _ _).mono ?_; rintro e w1 ⟨rfl, rfl⟩))
    go_ret
    exact ⟨rfl, Below.refl _ _⟩
  · have hM : madeT op L = giv 3 (allT 3 L) := by subst ho; unfold madeT; rw [if_neg (by decide), if_neg (by decide), if_neg (by decide), if_neg (by decide), if_neg (by decide)]
    rw [hM]
    clear ho hM HH2 HV
    generalize tx op = T at *
    go_enter Try.func35, Try.ntmps35
    go_wp2_with (first | (go_at_call 45; refine (HA3.out).mono ?_; rintro e w1 ⟨rfl, rfl⟩) | (go_at_call 44; refine (HG3.out _ _).mono ?_; rintro e w1 ⟨rfl, rfl⟩))
    go_ret
    exact ⟨rfl, Below.refl _ _⟩
  · have hM : madeT op L = giv 3 (allT 3 L) := by subst ho; unfold madeT; rw [if_neg (by decide), if_neg (by decide), if_neg (by decide), if_neg (by decide), if_neg (by decide)]
    rw [hM]
    clear ho hM HH2 HV
    generalize tx op = T at *
    go_enter Try.func35, Try.ntmps35
    go_wp2_with (first | (go_at_call 45; refine (HA3.out).mono ?_; rintro e w1 ⟨rfl, rfl⟩) | (go_at_call 44; refine (HG3.out _ _).mono ?_; rintro e w1 ⟨rfl, rfl⟩))
    go_ret
    exact ⟨rfl, Below.refl _ _⟩
  · have hM : madeT op L = giv 3 (allT 3 L) := by subst ho; unfold madeT; rw [if_neg (by decide), if_neg (by decide), if_neg (by decide), if_neg (by decide), if_neg (by decide)]
    rw [hM]
    clear ho hM HH2 HV
    generalize tx op = T at *
    go_enter Try.func35, Try.ntmps35
    go_wp2_with (first | (go_at_call 45; refine (HA3.out).mono ?_; rintro e w1 ⟨rfl, rfl⟩) | (go_at_call 44; refine (HG3.out _ _).mono ?_; rintro e w1 ⟨rfl, rfl⟩))
    go_ret
    exact ⟨rfl, Below.refl _ _⟩
  · have hM : madeT op L = giv 1 (allT 1 L) := by subst ho; unfold madeT; rw [if_pos (by decide)]
    rw [hM]
    clear ho hM HH2 HV
    generalize tx op = T at *
    go_enter Try.func35, Try.ntmps35
    go_wp2_with (first | (go_at_call 45; refine (HA1.out).mono ?_; rintro e w1 ⟨rfl, rfl⟩) | (go_at_call 44; refine (HG1.out _ _).mono ?_; rintro e w1 ⟨rfl, rfl⟩))
    go_ret
    exact ⟨rfl, Below.refl _ _⟩
  · have hM : madeT op L = giv 1 (allT 2 L) := by subst ho; unfold madeT; rw [if_neg (by decide), if_pos (by decide)]
    rw [hM]
    clear ho hM HH2 HV
    generalize tx op = T at *
    go_enter Try.func35, Try.ntmps35
    go_wp2_with (first | (go_at_call 45; refine (HA2.out).mono ?_; rintro e w1 ⟨rfl, rfl⟩) | (go_at_call 44; refine (HG1.out _ _).mono ?_; rintro e w1 ⟨rfl, rfl⟩))
    go_ret
    exact ⟨rfl, Below.refl _ _⟩
  · have hM : madeT op L = giv 1 (allT 1 L) := by subst ho; unfold madeT; rw [if_pos (by decide)]
    rw [hM]
    clear ho hM HH2 HV
    generalize tx op = T at *
    go_enter Try.func35, Try.ntmps35
    go_wp2_with (first | (go_at_call 45; refine (HA1.out).mono ?_; rintro e w1 ⟨rfl, rfl⟩) | (go_at_call 44; refine (HG1.out _ _).mono ?_; rintro e w1 ⟨rfl, rfl⟩))
    go_ret
    exact ⟨rfl, Below.refl _ _⟩
  · have hM : madeT op L = giv 3 (allT 3 L) := by subst ho; unfold madeT; rw [if_neg (by decide), if_neg (by decide), if_neg (by decide), if_neg (by decide), if_neg (by decide)]
    rw [hM]
    clear ho hM HH2 HV
    generalize tx op = T at *
    go_enter Try.func35, Try.ntmps35
    go_wp2_with (first | (go_at_call 45; refine (HA3.out).mono ?_; rintro e w1 ⟨rfl, rfl⟩) | (go_at_call 44; refine (HG3.out _ _).mono ?_; rintro e w1 ⟨rfl, rfl⟩))
    go_ret
    exact ⟨rfl, Below.refl _ _⟩
  · have hM : madeT op L = giv 3 (allT 3 L) := by subst ho; unfold madeT; rw [if_neg (by decide), if_neg (by decide), if_neg (by decide), if_neg (by decide), if_neg (by decide)]
    rw [hM]
    clear ho hM HH2 HV
    generalize tx op = T at *
    go_enter Try.func35, Try.ntmps35
    go_wp2_with (first | (go_at_call 45; refine (HA3.out).mono ?_; rintro e w1 ⟨rfl, rfl⟩) | (go_at_call 44; refine (HG3.out _ _).mono ?_; rintro e w1 ⟨rfl, rfl⟩))
    go_ret
    exact ⟨rfl, Below.refl _ _⟩
  · have hM : madeT op L = giv 3 (allT 2 L) := by subst ho; unfold madeT; rw [if_neg (by decide), if_neg (by decide), if_neg (by decide), if_neg (by decide), if_pos (by decide)]
    rw [hM]
    clear ho hM HH2 HV
    generalize tx op = T at *
    go_enter Try.func35, Try.ntmps35
    go_wp2_with (first | (go_at_call 45; refine (HA2.out).mono ?_; rintro e w1 ⟨rfl, rfl⟩) | (go_at_call 44; refine (HG3.out _ _).mono ?_; rintro e w1 ⟨rfl, rfl⟩))
    go_ret
    exact ⟨rfl, Below.refl _ _⟩
  · have hM : madeT op L = giv 3 (L.getD 0 0 == L.getD 1 0) := by subst ho; unfold madeT; rw [if_neg (by decide), if_neg (by decide), if_neg (by decide), if_pos (by decide)]
    rw [hM]
    have hl : L.length = 2 := HH2.out (by subst ho; decide)
    obtain ⟨t0, t1, rfl⟩ : ∃ t0 t1, L = [t0, t1] := by
      match L, hl with
      | [t0, t1], _ => exact ⟨t0, t1, rfl⟩
    obtain ⟨x', cap, hv', hcap, hx, hc⟩ := HV.out
    cases hv'
    obtain ⟨a, rfl⟩ : ∃ a, x = some a := by
      cases x with
      | none => have := hx rfl; cases this
      | some a => exact ⟨a, rfl⟩
    have c0 := hc a rfl 0 t0 rfl
    have c1 := hc a rfl 1 t1 rfl
    rw [show a.add 0 = a from rfl] at c0
    have c1' : w.cell? ⟨a.block, a.off + 1, none⟩ = some (.int .i64 (t1 : Nat)) := by simpa [Addr.add] using c1
    have HEQ : ((t0 : Int) == (t1 : Int)) = (t0 == t1) := Bool.eq_iff_iff.2 (by rw [beq_iff_eq, beq_iff_eq]; omega)
    have HG4 : Hid (∀ W, Calls Try.prog 44 #[.int .i64 3, .bool ((t0 : Int) == (t1 : Int))] W fun e w' => e = .returned (.int .i64 (giv 3 (t0 == t1) : Nat)) ∧ W = w') := Lib.hid (fun W => by rw [HEQ]; exact wgiven 3 _ W)
    have HL2 : Hid (madeT op [t0, t1] = giv 3 (t0 == t1)) := Lib.hid hM
    show Calls Try.prog 35 #[.string (tx op), .slice (some a) 2 cp] w fun e w' => e = .returned (.int .i64 (giv 3 (t0 == t1) : Nat)) ∧ Below w.heap.size w w'
    clear ho hM hc hx c1 hl HEQ HV HH2 HA1 HA2 HA3 HG1 HG3 HL2 hcap
    generalize tx op = T at *
    go_enter Try.func35, Try.ntmps35
    go_wp2
    go_quiet ((go_at_call 44; exact quiet_eq (HG4.out _)))
    go_wp2
    go_ret
    exact ⟨rfl, ⟨rfl, rfl, rfl, Nat.le_refl _, fun _ _ => rfl⟩⟩
  · have hM : madeT op L = giv 3 (L.getD 0 0 == L.getD 1 0) := by subst ho; unfold madeT; rw [if_neg (by decide), if_neg (by decide), if_neg (by decide), if_pos (by decide)]
    rw [hM]
    have hl : L.length = 2 := HH2.out (by subst ho; decide)
    obtain ⟨t0, t1, rfl⟩ : ∃ t0 t1, L = [t0, t1] := by
      match L, hl with
      | [t0, t1], _ => exact ⟨t0, t1, rfl⟩
    obtain ⟨x', cap, hv', hcap, hx, hc⟩ := HV.out
    cases hv'
    obtain ⟨a, rfl⟩ : ∃ a, x = some a := by
      cases x with
      | none => have := hx rfl; cases this
      | some a => exact ⟨a, rfl⟩
    have c0 := hc a rfl 0 t0 rfl
    have c1 := hc a rfl 1 t1 rfl
    rw [show a.add 0 = a from rfl] at c0
    have c1' : w.cell? ⟨a.block, a.off + 1, none⟩ = some (.int .i64 (t1 : Nat)) := by simpa [Addr.add] using c1
    have HEQ : ((t0 : Int) == (t1 : Int)) = (t0 == t1) := Bool.eq_iff_iff.2 (by rw [beq_iff_eq, beq_iff_eq]; omega)
    have HG4 : Hid (∀ W, Calls Try.prog 44 #[.int .i64 3, .bool ((t0 : Int) == (t1 : Int))] W fun e w' => e = .returned (.int .i64 (giv 3 (t0 == t1) : Nat)) ∧ W = w') := Lib.hid (fun W => by rw [HEQ]; exact wgiven 3 _ W)
    have HL2 : Hid (madeT op [t0, t1] = giv 3 (t0 == t1)) := Lib.hid hM
    show Calls Try.prog 35 #[.string (tx op), .slice (some a) 2 cp] w fun e w' => e = .returned (.int .i64 (giv 3 (t0 == t1) : Nat)) ∧ Below w.heap.size w w'
    clear ho hM hc hx c1 hl HEQ HV HH2 HA1 HA2 HA3 HG1 HG3 HL2 hcap
    generalize tx op = T at *
    go_enter Try.func35, Try.ntmps35
    go_wp2
    go_quiet ((go_at_call 44; exact quiet_eq (HG4.out _)))
    go_wp2
    go_ret
    exact ⟨rfl, ⟨rfl, rfl, rfl, Nat.le_refl _, fun _ _ => rfl⟩⟩
  · have hM : madeT op L = giv 3 (allT 1 L) := by subst ho; unfold madeT; rw [if_neg (by decide), if_neg (by decide), if_pos (by decide)]
    rw [hM]
    clear ho hM HH2 HV
    generalize tx op = T at *
    go_enter Try.func35, Try.ntmps35
    go_wp2_with (first | (go_at_call 45; refine (HA1.out).mono ?_; rintro e w1 ⟨rfl, rfl⟩) | (go_at_call 44; refine (HG3.out _ _).mono ?_; rintro e w1 ⟨rfl, rfl⟩))
    go_ret
    exact ⟨rfl, Below.refl _ _⟩
  · have hM : madeT op L = giv 3 (allT 1 L) := by subst ho; unfold madeT; rw [if_neg (by decide), if_neg (by decide), if_pos (by decide)]
    rw [hM]
    clear ho hM HH2 HV
    generalize tx op = T at *
    go_enter Try.func35, Try.ntmps35
    go_wp2_with (first | (go_at_call 45; refine (HA1.out).mono ?_; rintro e w1 ⟨rfl, rfl⟩) | (go_at_call 44; refine (HG3.out _ _).mono ?_; rintro e w1 ⟨rfl, rfl⟩))
    go_ret
    exact ⟨rfl, Below.refl _ _⟩
  · have hM : madeT op L = giv 3 (allT 1 L) := by subst ho; unfold madeT; rw [if_neg (by decide), if_neg (by decide), if_pos (by decide)]
    rw [hM]
    clear ho hM HH2 HV
    generalize tx op = T at *
    go_enter Try.func35, Try.ntmps35
    go_wp2_with (first | (go_at_call 45; refine (HA1.out).mono ?_; rintro e w1 ⟨rfl, rfl⟩) | (go_at_call 44; refine (HG3.out _ _).mono ?_; rintro e w1 ⟨rfl, rfl⟩))
    go_ret
    exact ⟨rfl, Below.refl _ _⟩
  · have hM : madeT op L = giv 3 (allT 1 L) := by subst ho; unfold madeT; rw [if_neg (by decide), if_neg (by decide), if_pos (by decide)]
    rw [hM]
    clear ho hM HH2 HV
    generalize tx op = T at *
    go_enter Try.func35, Try.ntmps35
    go_wp2_with (first | (go_at_call 45; refine (HA1.out).mono ?_; rintro e w1 ⟨rfl, rfl⟩) | (go_at_call 44; refine (HG3.out _ _).mono ?_; rintro e w1 ⟨rfl, rfl⟩))
    go_ret
    exact ⟨rfl, Below.refl _ _⟩
  · have hM : madeT op L = giv 1 (allT 1 L) := by subst ho; unfold madeT; rw [if_pos (by decide)]
    rw [hM]
    clear ho hM HH2 HV
    generalize tx op = T at *
    go_enter Try.func35, Try.ntmps35
    go_wp2_with (first | (go_at_call 45; refine (HA1.out).mono ?_; rintro e w1 ⟨rfl, rfl⟩) | (go_at_call 44; refine (HG1.out _ _).mono ?_; rintro e w1 ⟨rfl, rfl⟩))
    go_ret
    exact ⟨rfl, Below.refl _ _⟩
  · have hM : madeT op L = giv 1 (allT 1 L) := by subst ho; unfold madeT; rw [if_pos (by decide)]
    rw [hM]
    clear ho hM HH2 HV
    generalize tx op = T at *
    go_enter Try.func35, Try.ntmps35
    go_wp2_with (first | (go_at_call 45; refine (HA1.out).mono ?_; rintro e w1 ⟨rfl, rfl⟩) | (go_at_call 44; refine (HG1.out _ _).mono ?_; rintro e w1 ⟨rfl, rfl⟩))
    go_ret
    exact ⟨rfl, Below.refl _ _⟩
  · have hM : madeT op L = giv 1 (allT 1 L) := by subst ho; unfold madeT; rw [if_pos (by decide)]
    rw [hM]
    clear ho hM HH2 HV
    generalize tx op = T at *
    go_enter Try.func35, Try.ntmps35
    go_wp2_with (first | (go_at_call 45; refine (HA1.out).mono ?_; rintro e w1 ⟨rfl, rfl⟩) | (go_at_call 44; refine (HG1.out _ _).mono ?_; rintro e w1 ⟨rfl, rfl⟩))
    go_ret
    exact ⟨rfl, Below.refl _ _⟩
  · have hM : madeT op L = giv 1 (allT 1 L) := by subst ho; unfold madeT; rw [if_pos (by decide)]
    rw [hM]
    clear ho hM HH2 HV
    generalize tx op = T at *
    go_enter Try.func35, Try.ntmps35
    go_wp2_with (first | (go_at_call 45; refine (HA1.out).mono ?_; rintro e w1 ⟨rfl, rfl⟩) | (go_at_call 44; refine (HG1.out _ _).mono ?_; rintro e w1 ⟨rfl, rfl⟩))
    go_ret
    exact ⟨rfl, Below.refl _ _⟩
  · have hM : madeT op L = giv 3 (allT 3 L) := made_else L ho
    rw [hM]
    clear ho hM HH2 HV
    generalize tx op = T at *
    go_enter Try.func35, Try.ntmps35
    go_wp2_with (first | (go_at_call 45; refine (HA3.out).mono ?_; rintro e w1 ⟨rfl, rfl⟩) | (go_at_call 44; refine (HG3.out _ _).mono ?_; rintro e w1 ⟨rfl, rfl⟩))
    go_ret
    exact ⟨rfl, Below.refl _ _⟩
end Go.Proofs.Ytmhfnpabgkkjaaa
