/- NumLadders: the walk. -/
import Derived.Test.YtepjdnokkgmhoaaE1
import Derived.Test.YtepjdnokkgmhoaaA1
namespace Go.Proofs.Ytepjdnokkgmhoaa
open Go.RowKit Go.Shelf
/-- Rows of numbers are kept. -/
theorem SeesF.keep {w w' : World} {x : Option Addr} {n : Nat} {f : Nat → Nat} (h : SeesF w x n f) (hB : Below w.heap.size w w') : SeesF w' x n f := fun hp => by
  obtain ⟨b, rfl, hc⟩ := h hp
  refine ⟨b, rfl, fun i hi => ?_⟩
  have h1 := hc i hi
  have hb : b < w.heap.size := by
    rcases Nat.lt_or_ge b w.heap.size with q | q
    · exact q
    · exfalso
      have : w.heap[b]? = none := Array.getElem?_eq_none q
      simp [World.cell?, this] at h1
  exact (hB.cell (p := ⟨b, i, none⟩) hb).trans h1
theorem SeesF.less {w : World} {x : Option Addr} {n m : Nat} {f : Nat → Nat} (h : SeesF w x n f) (hm : m ≤ n) : SeesF w x m f := fun hp => by
  obtain ⟨b, rfl, hc⟩ := h (by omega)
  exact ⟨b, rfl, fun i hi => hc i (by omega)⟩
theorem SeesF.drewN {w : World} {x : Option Addr} {n m : Nat} {f : Nat → Nat} (h : SeesF w x n f) : SeesF (w.drewN m) x n f := fun hp => by
  obtain ⟨b, rfl, hc⟩ := h hp
  exact ⟨b, rfl, fun i hi => by simpa [go_sem] using hc i hi⟩
theorem below_step {w a b : World} (h : Below w.heap.size w a) (k : Below a.heap.size a b) : Below w.heap.size w b := h.trans (k.mono h.size)
def LadEnd (w : World) (e : Ending) (w' : World) : Prop := e = .returned (.bool true) ∧ Below w.heap.size w w'
set_option maxRecDepth 100000 in
set_option maxHeartbeats 4000000 in
/-- A ladder that may not be. -/
theorem ladders_bad (lo hi step : Nat) (k : Int) (x : Nat) (stop : Int) (w : World) (h : stepsE lo hi step ≠ 0) (hs0 : 0 ≤ stop) (hs1 : stop < 256) :
    Calls Try.prog 5 #[.float .f64 lo, .float .f64 hi, .float .f64 step, .int .i64 k, .float .f64 x, .int .u8 stop] w (LadEnd w) := by
  have hE : stepsE lo hi step = 180 ∧ stepsN lo hi step = 0 := (values_dich lo hi step).resolve_left h
  obtain ⟨hE, hN0⟩ := hE
  have hA : atX lo hi step k = 0 := by unfold atX; rw [if_neg h]
  have hF : atE lo hi step k = 180 := by unfold atE; rw [if_neg h, hE]
  have hP : nearN lo hi step x = 0 := by unfold nearN; rw [if_neg h]
  have hG : nearE lo hi step x = 180 := by unfold nearE; rw [if_neg h, hE]
  have HS1 := Lib.hid (fun W => tsteps lo hi step W)
  have HS2 := Lib.hid (fun W => rsteps lo hi step W)
  have HA1 := Lib.hid (fun W => tat lo hi step k W)
  have HA2 := Lib.hid (fun W => rat lo hi step k W)
  have HN1 := Lib.hid (fun W => tnear lo hi step x W)
  have HN2 := Lib.hid (fun W => rnear lo hi step x W)
  have HT := Lib.hid (fun (z : Int) (h0 : 0 ≤ z) (h1 : z ≤ 9223372036854775807) W => show Calls Try.prog 26 #[.float .f64 lo, .float .f64 hi, .float .f64 step, .int .i64 z] W (ToldEnd lo step (min (stepsN lo hi step) z.toNat) W) by
    obtain ⟨m, rfl⟩ : ∃ m : Nat, z = (m : Int) := ⟨z.toNat, by omega⟩
    exact ttold lo hi step m W (by omega))
  have HV := Lib.hid (fun W => show Calls Try.prog 27 #[.float .f64 lo, .float .f64 hi, .float .f64 step] W (fun e w' => e = .returned (.tuple #[.slice none 0 0, .bool false]) ∧ Below W.heap.size W w') from (rvalues lo hi step W).mono (by
    rintro e w' (⟨q, _⟩ | ⟨_, _, q1, q2⟩)
    · exact absurd q h
    · exact ⟨q1, q2⟩))
  have HSA := Lib.hid (fun (x : Option Addr) (c : Nat) W => rsameAll x none 0 c 0 (fun _ => 0) (fun _ => 0) W (by omega) (fun h => absurd h (by omega)) (fun h => absurd h (by omega)) (fun i h => absurd h (by omega)) (fun i h => absurd h (by omega)) (fun i h => absurd h (by omega)))
  have hs := fun W => tsame 0 0 (by omega) (by omega) W
  rw [beq_self_eq_true] at hs
  have HS := Lib.hid hs
  rw [hE, hN0] at HS1 HS2
  rw [hA, hF] at HA1 HA2
  rw [hP, hG] at HN1 HN2
  rw [hN0] at HT
  unfold ToldEnd at HT
  have HT1 := Lib.hid (fun W => HT.out 20000 (by omega) (by omega) W)
  have HT2 := Lib.hid (fun W => HT.out stop hs0 (by omega) W)
  rw [Nat.zero_min] at HT1 HT2
  clear HT
  have h00 : (FloatKind.f64.format.order 0 0) = some .eq := ord_num nan_zero
  clear hs h hE hN0 hA hF hP hG
  go_enter Try.func5, Try.ntmps5
  go_wp2_with (first | (go_at_call 20; refine (HS1.out _).mono ?_; rintro e w' ⟨rfl, rfl⟩) | (go_at_call 21; refine (HA1.out _).mono ?_; rintro e w' ⟨rfl, rfl⟩) | (go_at_call 22; refine (HN1.out _).mono ?_; rintro e w1 ⟨rfl, hB1⟩; have HB1 := Lib.hid hB1; clear hB1) | (go_at_call 23; refine (HS2.out _).mono ?_; rintro e w2 ⟨rfl, hB2⟩; have HB2 := Lib.hid hB2; clear hB2) | (go_at_call 24; refine (HA2.out _).mono ?_; rintro e w3 ⟨rfl, hB3⟩; have HB3 := Lib.hid hB3; clear hB3) | (go_at_call 25; refine (HN2.out _).mono ?_; rintro e w4 ⟨rfl, hB4⟩; have HB4 := Lib.hid hB4; clear hB4) | (go_at_call 11; refine (HS.out _).mono ?_; rintro e w' ⟨rfl, rfl⟩) | (go_at_call 12; refine (tawake _).mono ?_; rintro e w5 ⟨rfl, hB5⟩; have HB5 := Lib.hid hB5; clear hB5))
  go_wp2_with (first | (go_at_call 26; first | ((with_reducible refine (HT1.out _).mono ?_); rintro e w6 ⟨x1, cap1, rfl, hS1, hB6⟩; have HQ1 := Lib.hid hS1; have HB6 := Lib.hid hB6; clear hS1 hB6) | ((with_reducible refine (HT2.out _).mono ?_); rintro e w7 ⟨x2, cap2, rfl, hS2, hB7⟩; have HQ2 := Lib.hid hS2; have HB7 := Lib.hid hB7; clear hS2 hB7)) | (go_at_call 27; refine (HV.out _).mono ?_; rintro e w8 ⟨rfl, hB8⟩; have HB8 := Lib.hid hB8; clear hB8) | (go_at_call 28; refine (HSA.out _ _ _).mono ?_; rintro e w9 ⟨rfl, m9, rfl⟩))
  go_loop [31] (fun i => i = .int .i64 1) (fun _ => 0)
  case atStart => exact rfl
  case round =>
    subst hrel
    go_wp2
    go_ret
    exact ⟨rfl, below_drewN (below_step (below_step (below_step (below_step (below_step (below_step (below_step HB1.out HB2.out) HB3.out) HB4.out) HB5.out) HB6.out) HB7.out) HB8.out) _⟩

theorem atX_lt {lo hi step : Nat} {k : Int} : atX lo hi step k < 18446744073709551616 := by
  unfold atX
  by_cases h : stepsE lo hi step = 0
  · rw [if_pos h]
    split
    · omega
    · rename_i q
      obtain ⟨f1, f2, f3, _, _, hle, _, _⟩ := step_facts h
      exact (valB_eq lo step k.toNat f1 f3 (by omega)).2.2
  · rw [if_neg h]; omega
/-- The end of the law on a place: what is laid of the second look. -/
def BackOk (lo hi step V : Nat) (F : Int) : Prop := F = 0 → ∃ (bb U : Nat), (∀ W, Calls Try.prog 22 #[.float .f64 lo, .float .f64 hi, .float .f64 step, .float .f64 V] W fun e w' => e = .returned (.tuple #[.int .i64 (bb : Int), .int .i64 0]) ∧ Below W.heap.size W w') ∧
  (∀ W, Calls Try.prog 21 #[.float .f64 lo, .float .f64 hi, .float .f64 step, .int .i64 (bb : Int)] W fun e w' => e = .returned (.tuple #[.float .f64 U, .int .i64 0]) ∧ W = w') ∧ FloatKind.f64.format.order U V = some .eq
theorem back_ok (lo hi step : Nat) (k : Int) (h : stepsE lo hi step = 0) : BackOk lo hi step (atX lo hi step k) (atE lo hi step k) := by
  intro hF
  have hk : ¬ (k < 0 ∨ (stepsN lo hi step : Int) ≤ k) := by
    intro q
    unfold atE at hF
    rw [if_pos h, if_pos q] at hF
    omega
  obtain ⟨j, rfl⟩ : ∃ j : Nat, k = (j : Int) := ⟨k.toNat, by omega⟩
  have hV : atX lo hi step (j : Int) = valB lo step j := by unfold atX; rw [if_pos h, if_neg hk, Int.toNat_natCast]
  obtain ⟨b1, bb, b2, b3, b4, b5, b6⟩ := ladder_back h (show j < stepsN lo hi step by omega)
  rw [hV]
  refine ⟨bb, valB lo step bb, fun W => ?_, fun W => ?_, ?_⟩
  · have := tnear lo hi step (valB lo step j) W
    rw [b1, b2] at this
    exact this
  · have := tat lo hi step (bb : Int) W
    have e1 : atX lo hi step (bb : Int) = valB lo step bb := by unfold atX; rw [if_pos h, if_neg (by omega), Int.toNat_natCast]
    have e2 : atE lo hi step (bb : Int) = 0 := by unfold atE; rw [if_pos h, if_neg (by omega)]
    rw [e1, e2] at this
    exact this
  · have := order_val (valB lo step bb) (valB lo step j) b5 b6
    rw [Int.compare_eq_eq.2 b4] at this
    exact this
set_option maxRecDepth 100000 in
set_option maxHeartbeats 8000000 in
/-- A ladder. -/
theorem ladders_good (lo hi step : Nat) (k : Int) (x : Nat) (st : Nat) (w : World) (h : stepsE lo hi step = 0) (hs1 : st < 256) :
    Calls Try.prog 5 #[.float .f64 lo, .float .f64 hi, .float .f64 step, .int .i64 k, .float .f64 x, .int .u8 (st : Int)] w (LadEnd w) := by
  obtain ⟨f1, f2, f3, _, _, hle, hpos, hav⟩ := step_facts h
  have HFN := Lib.hid (fun i hi' => @falls_not lo hi step i h hi')
  have HVL := Lib.hid (fun i (hi' : i < stepsN lo hi step) => (valB_eq lo step i f1 f3 (by omega)).2.2)
  have HBO := Lib.hid (back_ok lo hi step k h)
  have hvl := @atX_lt lo hi step k
  have HS1 := Lib.hid (fun W => tsteps lo hi step W)
  have HS2 := Lib.hid (fun W => rsteps lo hi step W)
  have HA1 := Lib.hid (fun W => tat lo hi step k W)
  have HA2 := Lib.hid (fun W => rat lo hi step k W)
  have HN1 := Lib.hid (fun W => tnear lo hi step x W)
  have HN2 := Lib.hid (fun W => rnear lo hi step x W)
  have HT := Lib.hid (fun (z : Int) (h0 : 0 ≤ z) (h1 : z ≤ 9223372036854775807) W => show Calls Try.prog 26 #[.float .f64 lo, .float .f64 hi, .float .f64 step, .int .i64 z] W (ToldEnd lo step (min (stepsN lo hi step) z.toNat) W) by
    obtain ⟨m, rfl⟩ : ∃ m : Nat, z = (m : Int) := ⟨z.toNat, by omega⟩
    exact ttold lo hi step m W (by omega))
  have HV := Lib.hid (fun W => show Calls Try.prog 27 #[.float .f64 lo, .float .f64 hi, .float .f64 step] W (fun e w' => ∃ g cap, e = .returned (.tuple #[.slice (some ⟨g, 0, none⟩) (stepsN lo hi step) cap, .bool true]) ∧ stepsN lo hi step ≤ cap ∧ SeesF w' (some ⟨g, 0, none⟩) (stepsN lo hi step) (valB lo step) ∧ Below W.heap.size W w') from (rvalues lo hi step W).mono (by
    rintro e w' (⟨_, v, q1, q2, q3⟩ | ⟨q, _⟩)
    · obtain ⟨x, cap, rfl⟩ := owns_slice q2
      have hs := sees_of_owns q2
      obtain ⟨g, rfl, _, hc, _⟩ := owns_cell q2 hpos
      exact ⟨g, cap, q1, hc, hs, q3⟩
    · omega))
  have HNP := Lib.hid hpos
  have HNL := Lib.hid hle
  obtain ⟨N, hN⟩ : ∃ N, stepsN lo hi step = N := ⟨_, rfl⟩
  obtain ⟨V, hV⟩ : ∃ V, atX lo hi step k = V := ⟨_, rfl⟩
  obtain ⟨F, hF⟩ : ∃ F, atE lo hi step k = F := ⟨_, rfl⟩
  obtain ⟨P, hP⟩ : ∃ P, nearN lo hi step x = P := ⟨_, rfl⟩
  obtain ⟨G, hG⟩ : ∃ G, nearE lo hi step x = G := ⟨_, rfl⟩
  rw [h, hN] at HS1 HS2
  rw [hV, hF] at HA1 HA2 HBO
  rw [hP, hG] at HN1 HN2
  rw [hN] at HT HV HFN HVL HNP HNL
  rw [hV] at hvl
  have HSA := Lib.hid (fun (y z : Option Addr) (n c d : Nat) W (hn : n ≤ N) (hy : SeesF W y n (valB lo step)) (hz : SeesF W z n (valB lo step)) => rsameAll y z n c d (valB lo step) (valB lo step) W (by have := HNL.out; omega) hy hz (fun i q => HVL.out i (by omega)) (fun i q => HVL.out i (by omega)) (fun i _ => rfl))
  have hs := fun W => tsame V V hvl hvl W
  rw [beq_self_eq_true] at hs
  have HS := Lib.hid hs
  unfold ToldEnd at HT
  have HT1 := Lib.hid (fun W => HT.out 20000 (by omega) (by omega) W)
  have HT2 := Lib.hid (fun W => HT.out (st : Int) (by omega) (by omega) W)
  rw [show min N (20000 : Int).toNat = N by have := HNL.out; show min N 20000 = N; omega] at HT1
  have HVF : Hid (F ≠ 0 → V = 0) := Lib.hid fun q => by
    unfold atE at hF
    unfold atX at hV
    rw [if_pos h] at hF hV
    by_cases z : k < 0 ∨ (stepsN lo hi step : Int) ≤ k
    · rw [if_pos z] at hV; exact hV.symm
    · rw [if_neg z] at hF; omega
  clear hs h hN hV hF hP hG HT hvl f1 f2 f3 hle hpos hav
  go_enter Try.func5, Try.ntmps5
  go_wp2_with (first | (go_at_call 20; refine (HS1.out _).mono ?_; rintro e w' ⟨rfl, rfl⟩) | (go_at_call 21; refine (HA1.out _).mono ?_; rintro e w' ⟨rfl, rfl⟩) | (go_at_call 22; refine (HN1.out _).mono ?_; rintro e w1 ⟨rfl, hB1⟩; have HB1 := Lib.hid hB1; clear hB1) | (go_at_call 23; refine (HS2.out _).mono ?_; rintro e w2 ⟨rfl, hB2⟩; have HB2 := Lib.hid hB2; clear hB2) | (go_at_call 24; refine (HA2.out _).mono ?_; rintro e w3 ⟨rfl, hB3⟩; have HB3 := Lib.hid hB3; clear hB3) | (go_at_call 25; refine (HN2.out _).mono ?_; rintro e w4 ⟨rfl, hB4⟩; have HB4 := Lib.hid hB4; clear hB4) | (go_at_call 11; refine (HS.out _).mono ?_; rintro e w' ⟨rfl, rfl⟩) | (go_at_call 12; refine (tawake _).mono ?_; rintro e w5 ⟨rfl, hB5⟩; have HB5 := Lib.hid hB5; clear hB5))
  go_wp2_with (first | (go_at_call 26; first | ((with_reducible refine (HT1.out _).mono ?_); rintro e w6 ⟨x1, cap1, rfl, hS1, hB6⟩; (have hS1' := hS1 HNP.out); (obtain ⟨bx, rfl, hS1''⟩ := hS1'); have HC1 := Lib.hid hS1''; clear hS1''; have HQ1 := Lib.hid hS1; have HB6 := Lib.hid hB6; clear hS1 hB6) | ((with_reducible refine (HT2.out _).mono ?_); rintro e w7 ⟨x2, cap2, rfl, hS2, hB7⟩; have HQ2 := Lib.hid hS2; have HB7 := Lib.hid hB7; clear hS2 hB7)) | (go_at_call 27; refine (HV.out _).mono ?_; rintro e w8 ⟨g, cap3, rfl, hc3, hS3, hB8⟩; have HB8 := Lib.hid hB8; have HQ3 := Lib.hid hS3; have HC3 := Lib.hid hc3; clear hB8 hS3 hc3) | (go_at_call 28; fail))
  have HC8 := Lib.hid (fun i (hi : i < N) => show w8.cell? ⟨bx, i, none⟩ = some (.float .f64 (valB lo step i)) by obtain ⟨b', e1, e2⟩ := ((HQ1.out.keep HB7.out).keep HB8.out) HNP.out; cases e1; exact e2 i hi)
  have HW1 := Lib.hid ((HQ1.out.keep HB7.out).keep HB8.out)
  have HW2 := Lib.hid (HQ2.out.keep HB8.out)
  have HBB := Lib.hid (below_step (below_step (below_step (below_step (below_step (below_step (below_step HB1.out HB2.out) HB3.out) HB4.out) HB5.out) HB6.out) HB7.out) HB8.out)
  clear HB1 HB2 HB3 HB4 HB5 HB6 HB7 HB8 HQ1 HQ2 HC1
  have hc3 := HC3.out
  rw [Int.toNat_natCast] at HW2
  by_cases hst : st < N
  · have hm : min N st = st := by omega
    rw [hm] at HW2 ⊢
    have hsc : st ≤ cap3 := by omega
    clear hm
    go_wp2_with (first | (go_at_call 28; ((with_reducible refine (HSA.out (some ⟨bx, 0, none⟩) (some ⟨g, 0, none⟩) N cap1 cap3 _ (Nat.le_refl _) HW1.out HQ3.out).mono ?_); rintro e w9 ⟨rfl, m9, rfl⟩)))
    go_at_call 28
    refine (HSA.out x2 (some ⟨g, 0, none⟩) st cap2 cap3 _ (by omega) HW2.out.drewN (HQ3.out.less (by omega)).drewN).mono ?_
    rintro e w9 ⟨rfl, m10, rfl⟩
    clear hc3 hst
    go_wp2
    go_loopw [31] (fun i wr => ∃ k : Nat, 1 ≤ k ∧ k ≤ N ∧ i = .int .i64 (k : Int) ∧ Hid (∃ m, wr = w8.drewN m)) (fun i _ => N - (intOf i).toNat)
    case atStart => exact ⟨1, by omega, HNP.out, rfl, Lib.hid ⟨_, rfl⟩⟩
    case round =>
      obtain ⟨k, hk1, hk, rfl, HW⟩ := hrel
      by_cases hlt : k < N
      · have hck : wr.cell? ⟨bx, k, none⟩ = some (.float .f64 (valB lo step k)) := by
          obtain ⟨m, rfl⟩ := HW.out
          simpa [go_sem] using HC8.out k hlt
        have hcb : wr.cell? ⟨bx, k - 1, none⟩ = some (.float .f64 (valB lo step (k - 1))) := by
          obtain ⟨m, rfl⟩ := HW.out
          simpa [go_sem] using HC8.out (k - 1) (by omega)
        have ht := lt_test _ (HFN.out k hlt)
        have hw : IntKind.i64.wrap ((k : Int) - 1) = (k : Int) - 1 := IntWalk.i64_in _ (by have := HNL.out; omega)
        have hw0 : 0 ≤ (k : Int) - 1 := by omega
        have hw1 : (k : Int) - 1 < N := by omega
        have hw2 : ((k : Int) - 1).toNat = k - 1 := by omega
        have HK := Lib.hid hlt
        have HK1 := Lib.hid hk1
        go_wp2
        go_quiet (fail)
        clear hw hw0 hw1 hw2
        have hkb : k ≤ 10001 := by have := HK.out; have := HNL.out; omega
        go_wp2
        go_roundw
        case rel =>
          have := HK.out
          obtain ⟨m, rfl⟩ := HW.out
          exact ⟨k + 1, by omega, by omega, by go_num, Lib.hid ⟨m + nq, World.drewN_drewN _ _ _⟩⟩
        case measure => have := HK.out; simp [intOf]; omega
      · obtain rfl : k = N := by omega
        by_cases hF : F = 0
        · obtain ⟨bb, U, hn2, ha2, ho2⟩ := HBO.out hF
          have HN3 := Lib.hid hn2
          have HA3 := Lib.hid ha2
          have gF : (F != 0) = false := by simpa using hF
          have gF2 : (F == 0) = true := by simpa using hF
          clear hn2 ha2 hF
          go_wp2_with (first | (go_at_call 22; refine (HN3.out _).mono ?_; rintro e w10 ⟨rfl, hB10⟩; have HB10 := Lib.hid hB10; clear hB10) | (go_at_call 21; refine (HA3.out _).mono ?_; rintro e w' ⟨rfl, rfl⟩))
          go_ret
          obtain ⟨m, rfl⟩ := HW.out
          exact ⟨rfl, below_step (below_drewN HBB.out _) HB10.out⟩
        · have hV0 := HVF.out hF
          have ho2 : FloatKind.f64.format.order V 0 = some .eq := by rw [hV0]; exact ord_num nan_zero
          have gF : (F != 0) = true := by simpa using hF
          have gF2 : (F == 0) = false := by simpa using hF
          clear hV0 hF
          go_wp2
          go_ret
          obtain ⟨m, rfl⟩ := HW.out
          exact ⟨rfl, below_drewN HBB.out _⟩
  · have hm : min N st = N := by omega
    rw [hm] at HW2 ⊢
    clear hm
    go_wp2_with (first | (go_at_call 28; ((with_reducible refine (HSA.out (some ⟨bx, 0, none⟩) (some ⟨g, 0, none⟩) N cap1 cap3 _ (Nat.le_refl _) HW1.out HQ3.out).mono ?_); rintro e w9 ⟨rfl, m9, rfl⟩)))
    go_at_call 28
    refine (HSA.out x2 (some ⟨g, 0, none⟩) N cap2 cap3 _ (by omega) HW2.out.drewN (HQ3.out.less (by omega)).drewN).mono ?_
    rintro e w9 ⟨rfl, m10, rfl⟩
    clear hc3 hst
    go_wp2
    go_loopw [31] (fun i wr => ∃ k : Nat, 1 ≤ k ∧ k ≤ N ∧ i = .int .i64 (k : Int) ∧ Hid (∃ m, wr = w8.drewN m)) (fun i _ => N - (intOf i).toNat)
    case atStart => exact ⟨1, by omega, HNP.out, rfl, Lib.hid ⟨_, rfl⟩⟩
    case round =>
      obtain ⟨k, hk1, hk, rfl, HW⟩ := hrel
      by_cases hlt : k < N
      · have hck : wr.cell? ⟨bx, k, none⟩ = some (.float .f64 (valB lo step k)) := by
          obtain ⟨m, rfl⟩ := HW.out
          simpa [go_sem] using HC8.out k hlt
        have hcb : wr.cell? ⟨bx, k - 1, none⟩ = some (.float .f64 (valB lo step (k - 1))) := by
          obtain ⟨m, rfl⟩ := HW.out
          simpa [go_sem] using HC8.out (k - 1) (by omega)
        have ht := lt_test _ (HFN.out k hlt)
        have hw : IntKind.i64.wrap ((k : Int) - 1) = (k : Int) - 1 := IntWalk.i64_in _ (by have := HNL.out; omega)
        have hw0 : 0 ≤ (k : Int) - 1 := by omega
        have hw1 : (k : Int) - 1 < N := by omega
        have hw2 : ((k : Int) - 1).toNat = k - 1 := by omega
        have HK := Lib.hid hlt
        have HK1 := Lib.hid hk1
        go_wp2
        go_quiet (fail)
        clear hw hw0 hw1 hw2
        have hkb : k ≤ 10001 := by have := HK.out; have := HNL.out; omega
        go_wp2
        go_roundw
        case rel =>
          have := HK.out
          obtain ⟨m, rfl⟩ := HW.out
          exact ⟨k + 1, by omega, by omega, by go_num, Lib.hid ⟨m + nq, World.drewN_drewN _ _ _⟩⟩
        case measure => have := HK.out; simp [intOf]; omega
      · obtain rfl : k = N := by omega
        by_cases hF : F = 0
        · obtain ⟨bb, U, hn2, ha2, ho2⟩ := HBO.out hF
          have HN3 := Lib.hid hn2
          have HA3 := Lib.hid ha2
          have gF : (F != 0) = false := by simpa using hF
          have gF2 : (F == 0) = true := by simpa using hF
          clear hn2 ha2 hF
          go_wp2_with (first | (go_at_call 22; refine (HN3.out _).mono ?_; rintro e w10 ⟨rfl, hB10⟩; have HB10 := Lib.hid hB10; clear hB10) | (go_at_call 21; refine (HA3.out _).mono ?_; rintro e w' ⟨rfl, rfl⟩))
          go_ret
          obtain ⟨m, rfl⟩ := HW.out
          exact ⟨rfl, below_step (below_drewN HBB.out _) HB10.out⟩
        · have hV0 := HVF.out hF
          have ho2 : FloatKind.f64.format.order V 0 = some .eq := by rw [hV0]; exact ord_num nan_zero
          have gF : (F != 0) = true := by simpa using hF
          have gF2 : (F == 0) = false := by simpa using hF
          clear hV0 hF
          go_wp2
          go_ret
          obtain ⟨m, rfl⟩ := HW.out
          exact ⟨rfl, below_drewN HBB.out _⟩
theorem ladders_any (lo hi step : Nat) (k : Int) (x : Nat) (stop : Int) (w : World) (hs0 : 0 ≤ stop) (hs1 : stop < 256) :
    Calls Try.prog 5 #[.float .f64 lo, .float .f64 hi, .float .f64 step, .int .i64 k, .float .f64 x, .int .u8 stop] w fun e w' => e = .returned (.bool true) ∧ Below w.heap.size w w' := by
  by_cases h : stepsE lo hi step = 0
  · obtain ⟨st, rfl⟩ : ∃ st : Nat, stop = (st : Int) := ⟨stop.toNat, by omega⟩
    exact ladders_good lo hi step k x st w h (by omega)
  · exact ladders_bad lo hi step k x stop w h hs0 hs1
end Go.Proofs.Ytepjdnokkgmhoaa
