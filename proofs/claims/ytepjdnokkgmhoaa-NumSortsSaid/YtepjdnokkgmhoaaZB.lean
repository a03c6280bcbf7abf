/- Walks of the library's sort at uint64: breakPatterns. -/
import Derived.Test.YtepjdnokkgmhoaaZ8
import Derived.Sort.Walk7
namespace Go.Proofs.Ytepjdnokkgmhoaa
open Go.RowKit Go.Sort Go.Proofs
set_option maxHeartbeats 4000000 in
set_option maxRecDepth 100000 in
theorem uBreakGo (blk off cap a L : Nat) (d : Array Int) (w : World) (hH : Holds encU w blk off d) (hblk : blk < w.heap.size) (hb : a + L ≤ d.size) (hsz : d.size < 4611686018427387904) (h8 : 8 ≤ L) :
    Calls Try.prog 60 #[.slice (some ⟨blk, off, none⟩) d.size cap, .int .i64 a, .int .i64 ((a + L : Nat) : Int)] w fun e w' => e = .returned (.tuple #[]) ∧ ∃ n os, w' = grow (putRow encU (Sort.ahead w n) blk off (breakPatterns d a (a + L))) os := by
  rw [breakPatterns_eq d a L h8]
  obtain ⟨M, hM⟩ : ∃ M : Nat, M = 1 <<< bitsLen L := ⟨_, rfl⟩
  have hM1 : 1 ≤ M := by rw [hM, Nat.one_shiftLeft]; exact Nat.two_pow_pos _
  have hM2 : M ≤ 2 * L := by rw [hM, Nat.one_shiftLeft]; exact two_pow_bitsLen_le (by omega)
  have HNP : Hid (∀ W, Calls Try.prog 70 #[.int .i64 (L : Int)] W fun e w' => e = .returned (.int .u64 (M : Int)) ∧ w' = W) := Lib.hid (by rw [hM]; exact fun W => uPow2 L (by omega) W)
  rw [← hM]
  have HHO := Lib.hid hH
  have HST : Hid (w.alloc (Obj.cells #[.int .u64 (L : Int)] 87) = grow (putRow encU (Sort.ahead w 0) blk off d) #[Obj.cells #[.int .u64 ((UInt64.ofNat L).toNat : Int)] 87]) := Lib.hid (by
    rw [show Sort.ahead w 0 = w from rfl, putRow_self _ _ _ _ _ hH, alloc_eq_grow, show (UInt64.ofNat L).toNat = L from by simp; omega])
  have e0 : ((a + L : Nat) : Int) - (a : Int) = (L : Int) := by omega
  obtain ⟨B, hB⟩ : ∃ B : Nat, ((a + L : Nat) : Int) = (B : Int) := ⟨_, rfl⟩
  rw [hB] at e0 ⊢
  clear hH hM hB
  go_enter Try.func60, Try.ntmps60
  go_wp2_with (first | (go_at_call 70; refine (HNP.out _).mono ?_; rintro e w' ⟨rfl, rfl⟩))
  go_loopw [9] (fun vi wr => ∃ (t n : Nat) (r : UInt64) (D : Array Int), vi = .int .i64 ((a + L / 4 * 2 - 1 + t : Nat) : Int) ∧ t ≤ 3 ∧ D.size = d.size ∧
      Hid (wr = grow (putRow encU (Sort.ahead w n) blk off D) #[Obj.cells #[.int .u64 (r.toNat : Int)] 87]) ∧
      Hid (bpRest a L M (a + L / 4 * 2 - 1) (3 - t) t (r, D) = bpRest a L M (a + L / 4 * 2 - 1) 3 0 (UInt64.ofNat L, d))) (fun vi _ => a + L / 4 * 2 + 3 - (Go.Proofs.intOf vi).toNat)
  case atStart => exact ⟨0, 0, UInt64.ofNat L, d, by congr 1; omega, by omega, rfl, HST, Lib.hid rfl⟩
  case round =>
    obtain ⟨t, n, r, D, rfl, ht, hs, HW, HR⟩ := hrel
    obtain ⟨R, hRr⟩ : ∃ R : Nat, R = r.toNat := ⟨_, rfl⟩
    have lR : R < 18446744073709551616 := by rw [hRr]; exact r.toNat_lt
    obtain ⟨X, hX⟩ : ∃ X : Nat, X = xorNextN R := ⟨_, rfl⟩
    have lX : X < 18446744073709551616 := by rw [hX]; exact xorNextN_lt R lR
    obtain ⟨O, hO⟩ : ∃ O : Nat, O = X &&& (M - 1) := ⟨_, rfl⟩
    have lO : O ≤ M - 1 := by rw [hO]; exact Nat.and_le_right
    have eAnd : bits .and .u64 (X : Int) ((M : Int) - 1) = (O : Int) := by
      rw [show ((M : Int) - 1) = ((M - 1 : Nat) : Int) by omega, bits_and_u64_nat _ _ lX (by omega), hO]
    obtain ⟨G, hG⟩ : ∃ G : Nat → Int, ∀ t, D[t]! = G t := ⟨fun t => D[t]!, fun _ => rfl⟩
    have hz : (putRow encU (Sort.ahead w n) blk off D).heap.size = w.heap.size := by simp
    have hcw : ∀ x, x < d.size → wr.cell? ⟨blk, off + x, none⟩ = some (.int .u64 (G x)) := fun x hx => by
      rw [HW.out, cell?_grow _ _ _ (by rw [hz]; exact hblk), ← hG]; exact cell?_putRow _ _ _ _ d D (holds_ahead _ _ _ _ _ _ HHO.out) hs x (by omega)
    have hfw : ∀ x, x < d.size → wr.frozen? ⟨blk, off + x, none⟩ = false := fun x hx => by
      rw [HW.out, frozen?_grow _ _ _ (by rw [hz]; exact hblk), frozen?_putRow]; exact ((holds_ahead _ _ n _ _ _ HHO.out) x hx).2
    have hcB : wr.cell? ⟨w.heap.size, 0, none⟩ = some (.int .u64 (R : Int)) := by rw [HW.out, hRr, ← hz]; exact grow_one_cell _ _ _
    have hfB : wr.frozen? ⟨w.heap.size, 0, none⟩ = false := by rw [HW.out, ← hz]; exact grow_one_frozen _ _ _
    have HNX : Hid (Calls Try.prog 71 #[.pointer (some ⟨w.heap.size, 0, none⟩)] wr fun e w' => e = .returned (.int .u64 (X : Int)) ∧ w' = (wr.setCell ⟨w.heap.size, 0, none⟩ (.int .u64 (X : Int))).drewN 3) := Lib.hid (by
      rw [hX]; exact uNext _ _ R lR wr hcB hfB)
    have HN : Hid (X = (xorNext r).toNat ∧ O = (xorNext r).toNat &&& (M - 1)) := Lib.hid (by
      have e : X = (xorNext r).toNat := by rw [hX, hRr, xorNext_toNat]
      exact ⟨e, by rw [hO, e]⟩)
    have HG := Lib.hid hG
    clear hG hRr hX hO
    by_cases h3 : t < 3
    · go_wp2_with (first | (go_at_call 71; refine (HNX.out).mono ?_; rintro e w' ⟨rfl, rfl⟩))
      · have hLO : L ≤ O := by omega
        by_cases hEq : a + L / 4 * 2 - 1 + t = a + (O - L)
        all_goals
          go_region
          all_goals go_wp2
          go_roundw
          case rel =>
            refine ⟨t + 1, n + 4, xorNext r, swp D (a + L / 4 * 2 - 1 + t) (a + (O - L)), by congr 1, by omega, by rw [size_swp]; exact hs, Lib.hid ?_, Lib.hid ?_⟩
            · (try rw [hEq])
              rw [HW.out, HN.out.1]
              simp only [← HG.out]
              exact step_world encU w n 4 blk off D _ _ hblk (by omega) (by omega) _ _ _
            · rw [← HR.out, bp_step a L M (a + L / 4 * 2 - 1) t r D (O - L) (by omega) (by rw [← HN.out.2, if_pos hLO])]
          case measure => simp [Go.Proofs.intOf]; omega
      · have hLO : ¬ L ≤ O := by omega
        by_cases hEq : a + L / 4 * 2 - 1 + t = a + O
        all_goals
          go_region
          all_goals go_wp2
          go_roundw
          case rel =>
            refine ⟨t + 1, n + 4, xorNext r, swp D (a + L / 4 * 2 - 1 + t) (a + O), by congr 1, by omega, by rw [size_swp]; exact hs, Lib.hid ?_, Lib.hid ?_⟩
            · (try rw [hEq])
              rw [HW.out, HN.out.1]
              simp only [← HG.out]
              exact step_world encU w n 4 blk off D _ _ hblk (by omega) (by omega) _ _ _
            · rw [← HR.out, bp_step a L M (a + L / 4 * 2 - 1) t r D O (by omega) (by rw [← HN.out.2, if_neg hLO])]
          case measure => simp [Go.Proofs.intOf]; omega
    · obtain rfl : t = 3 := by omega
      go_wp2
      go_end0
      refine ⟨rfl, n, #[Obj.cells #[.int .u64 (r.toNat : Int)] 87], ?_⟩
      rw [← HR.out]
      exact HW.out
set_option maxHeartbeats 1000000 in
theorem uBreak (blk off cap a b : Nat) (d : Array Int) (w : World) (hH : Holds encU w blk off d) (hblk : blk < w.heap.size) (hab : a ≤ b) (hb : b ≤ d.size) (hsz : d.size < 4611686018427387904) :
    Calls Try.prog 60 #[.slice (some ⟨blk, off, none⟩) d.size cap, .int .i64 a, .int .i64 b] w fun e w' => e = .returned (.tuple #[]) ∧ ∃ n os, w' = grow (putRow encU (Sort.ahead w n) blk off (breakPatterns d a b)) os := by
  by_cases h8 : b - a ≥ 8
  · obtain ⟨L, rfl⟩ : ∃ L, b = a + L := ⟨b - a, by omega⟩
    exact uBreakGo blk off cap a L d w hH hblk hb hsz (by omega)
  · have HE : Hid (breakPatterns d a b = d) := Lib.hid (by unfold breakPatterns; simp only []; rw [if_neg h8])
    have HW : Hid (w = grow (putRow encU (Sort.ahead w 0) blk off d) #[]) := Lib.hid (by rw [show Sort.ahead w 0 = w from rfl, putRow_self _ _ _ _ _ hH]; simp [grow])
    have e0 : ¬ 8 ≤ (b : Int) - (a : Int) := by omega
    rw [HE.out]
    clear hH h8
    go_enter Try.func60, Try.ntmps60
    go_wp2
    go_end0
    exact ⟨rfl, 0, #[], HW.out⟩
end Go.Proofs.Ytepjdnokkgmhoaa
