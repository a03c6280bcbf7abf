/- Walks of the library's sort at uint64: reverseRange, siftDown. -/
import Derived.Test.YtepjdnokkgmhoaaZ1
import Derived.Sort.WalkB2
namespace Go.Proofs.Ytepjdnokkgmhoaa
open Go.RowKit Go.Sort Go.Proofs
set_option maxHeartbeats 2000000 in
set_option maxRecDepth 100000 in
theorem uReverse (blk off cap a b : Nat) (d : Array Int) (w : World) (hH : Holds encU w blk off d) (hab : a ≤ b) (hb : b ≤ d.size) (hsz : d.size < 4611686018427387904) :
    Calls Try.prog 62 #[.slice (some ⟨blk, off, none⟩) d.size cap, .int .i64 a, .int .i64 b] w fun e w' => e = .returned (.tuple #[]) ∧ ∃ n, w' = putRow encU (Sort.ahead w n) blk off (reverseRange d a b) := by
  go_enter Try.func62, Try.ntmps62
  go_wp2
  go_loopg [6, 7] (b + 1 - a) (fun gh x y wr => ∃ (i J : Nat) (z : Int) (D : Array Int) (n : Nat), x = .int .i64 i ∧ y = .int .i64 z ∧ z < d.size ∧ -1 ≤ z ∧ J = z.toNat ∧ z + 1 - i ≤ gh ∧ D.size = d.size ∧ Hid (wr = putRow encU (Sort.ahead w n) blk off D) ∧ Hid (reverseLoop i J D = reverseLoop a (b - 1) d))
  case atStart => exact ⟨a, b - 1, (b : Int) - 1, d, 0, rfl, rfl, by omega, by omega, by omega, by omega, rfl, Lib.hid (putRow_self _ _ _ _ _ hH).symm, Lib.hid rfl⟩
  case round =>
    obtain ⟨i, J, z, D, n, rfl, rfl, hz, hz1, hJ, hg, hs, HW, HE⟩ := hrel
    by_cases q : (i : Int) < z
    · obtain rfl : z = (J : Int) := by omega
      have hij : i < J := by omega
      obtain ⟨G, hG⟩ : ∃ G : Nat → Int, ∀ t, D[t]! = G t := ⟨fun t => D[t]!, fun _ => rfl⟩
      obtain ⟨hcw, hfw⟩ := row_reads hH hs HW.out
      simp only [hG] at hcw
      have HG := Lib.hid hG
      have HJ := Lib.hid hij
      clear hG hH hJ hij
      go_wp2_with fail
      go_region
      go_wp2
      go_roundg (gk - 1)
      case measure => omega
      case rel =>
        refine ⟨i + 1, J - 1, (J : Int) - 1, swp D i J, n + 1, by go_num, rfl, by omega, by omega, by omega, by omega, by rw [size_swp]; exact hs, Lib.hid ?_, Lib.hid ?_⟩
        · exact swap_world encU (by omega) (by omega) HW.out (by rw [HG.out]) (by rw [HG.out])
        · have h := HE.out
          rw [reverseLoop, if_pos HJ.out] at h
          exact h
    · have hnot : ¬ i < J := by omega
      go_wp2
      go_end0
      refine ⟨rfl, n, ?_⟩
      have h := HE.out
      rw [reverseLoop, if_neg hnot] at h
      rw [reverseRange, ← h]
      exact HW.out
/-- What the child that is chosen makes of a round. -/
def SdC (hi F root c : Nat) (D : Array Int) : Prop := root < c ∧ c < hi ∧ (ltInt D[F + root]! D[F + c]! = false → siftDown ltInt hi F root D = D) ∧ (ltInt D[F + root]! D[F + c]! = true → siftDown ltInt hi F root D = siftDown ltInt hi F c (swp D (F + root) (F + c)))
theorem sdC_right {hi F root : Nat} {D : Array Int} (h1 : 2 * root + 2 < hi) (h2 : ltInt D[F + (2 * root + 1)]! D[F + (2 * root + 2)]! = true) : SdC hi F root (2 * root + 2) D :=
  ⟨by omega, h1, fun h => sd_right_stop ltInt D h1 h2 h, fun h => sd_right_go ltInt D h1 h2 h⟩
theorem sdC_left {hi F root : Nat} {D : Array Int} (h0 : 2 * root + 1 < hi) (h1 : 2 * root + 2 < hi → ltInt D[F + (2 * root + 1)]! D[F + (2 * root + 2)]! = false) : SdC hi F root (2 * root + 1) D :=
  ⟨by omega, h0, fun h => sd_left_stop ltInt D h0 h1 h, fun h => sd_left_go ltInt D h0 h1 h⟩
set_option maxHeartbeats 4000000 in
set_option maxRecDepth 100000 in
theorem uSift (blk off len cap lo hi F : Nat) (d : Array Int) (w : World) (hlen : d.size = len) (hH : Holds encU w blk off d) (hlo : lo ≤ hi) (hb : F + hi ≤ d.size) (hsz : d.size < 4611686018427387904) :
    Calls Try.prog 69 #[.slice (some ⟨blk, off, none⟩) len cap, .int .i64 lo, .int .i64 hi, .int .i64 F] w fun e w' => e = .returned (.tuple #[]) ∧ ∃ n, w' = putRow encU (Sort.ahead w n) blk off (siftDown ltInt hi F lo d) := by
  subst hlen
  go_enter Try.func69, Try.ntmps69
  go_wp2
  go_loopg [8] (hi - lo) (fun gh x wr => ∃ (root : Nat) (D : Array Int) (n : Nat), x = .int .i64 root ∧ root ≤ hi ∧ hi - root ≤ gh ∧ D.size = d.size ∧ Hid (wr = putRow encU (Sort.ahead w n) blk off D) ∧ Hid (siftDown ltInt hi F root D = siftDown ltInt hi F lo d))
  case atStart => exact ⟨lo, d, 0, rfl, hlo, Nat.le_refl _, rfl, Lib.hid (putRow_self _ _ _ _ _ hH).symm, Lib.hid rfl⟩
  case round =>
    obtain ⟨root, D, n, rfl, hr, hg, hs, HW, HE⟩ := hrel
    by_cases h0 : hi ≤ 2 * root + 1
    · have h0z : (hi : Int) ≤ 2 * (root : Int) + 1 := by omega
      go_wp2
      go_end0
      exact ⟨rfl, n, by rw [← HE.out, sd_end ltInt D h0]; exact HW.out⟩
    · have h0z : ¬ (hi : Int) ≤ 2 * (root : Int) + 1 := by omega
      obtain ⟨G, hG⟩ : ∃ G : Nat → Int, ∀ t, D[t]! = G t := ⟨fun t => D[t]!, fun _ => rfl⟩
      obtain ⟨hcw, hfw⟩ := row_reads hH hs HW.out
      simp only [hG] at hcw
      have HG := Lib.hid hG
      clear hG hH
      by_cases h1 : 2 * root + 2 < hi
      · have h1z : 2 * (root : Int) + 1 + 1 < (hi : Int) := by omega
        go_wp2_with fail
        go_big_quiet (first | (go_at_call 64; refine Calls.quiet_of_same (uLess _ _ _)))
        go_wp2_with fail
        · have hL : ltInt (G (F + 2 * root + 1)) (G (F + 2 * root + 2)) = true := by assumption
          have HC : Hid (SdC hi F root (2 * root + 2) D) := Lib.hid (sdC_right h1 (by rw [HG.out, HG.out]; exact hL))
          revert nq; intro nq1
          have HW2 : Hid (wr.drewN nq1 = putRow encU (Sort.ahead w (n + nq1)) blk off D) := Lib.hid (by rw [HW.out]; exact putRow_drewN _ _ _ _ _ _ _)
          have hcw2 : ∀ t, t < d.size → (wr.drewN nq1).cell? ⟨blk, off + t, none⟩ = some (.int .u64 (G t)) := hcw
          have hfw2 : ∀ t, t < d.size → (wr.drewN nq1).frozen? ⟨blk, off + t, none⟩ = false := hfw
          clear hcw hfw HW
          generalize wr.drewN nq1 = wr2 at hcw2 hfw2 HW2 ⊢
          go_big_quiet (first | (go_at_call 64; refine Calls.quiet_of_same (uLess _ _ _)))
          go_wp2_with fail
          · have hS : ltInt (G (F + root)) (G (F + (2 * root + 2))) = false := by
              have : (!ltInt (G (F + root)) (G (F + 2 * root + 2))) = true := by assumption
              rw [show F + (2 * root + 2) = F + 2 * root + 2 by omega]
              simpa using this
            (try simp only [Exit.inBlock, Exit.then])
            refine bodyPost_ret (results_none rfl _ _ _) rfl ?_
            refine ⟨rfl, n + nq1 + nq, ?_⟩
            rw [← HE.out, HC.out.2.2.1 (by rw [HG.out, HG.out]; exact hS), HW2.out]
            exact putRow_drewN _ _ _ _ _ _ _
          · have hS : ltInt (G (F + root)) (G (F + (2 * root + 2))) = true := by
              have : (!ltInt (G (F + root)) (G (F + 2 * root + 2))) = false := by assumption
              rw [show F + (2 * root + 2) = F + 2 * root + 2 by omega]
              simpa using this
            have HW3 : Hid (wr2.drewN nq = putRow encU (Sort.ahead w (n + nq1 + nq)) blk off D) := Lib.hid (by rw [HW2.out]; exact putRow_drewN _ _ _ _ _ _ _)
            have hcw3 : ∀ t, t < d.size → (wr2.drewN nq).cell? ⟨blk, off + t, none⟩ = some (.int .u64 (G t)) := hcw2
            have hfw3 : ∀ t, t < d.size → (wr2.drewN nq).frozen? ⟨blk, off + t, none⟩ = false := hfw2
            clear hcw2 hfw2 HW2
            generalize wr2.drewN nq = wr3 at hcw3 hfw3 HW3 ⊢
            go_region
            go_wp2
            go_roundg (hi - ((2 * root + 2)))
            case measure => omega
            case rel =>
              refine ⟨(2 * root + 2), swp D (F + root) (F + ((2 * root + 2))), n + nq1 + nq + 1, by go_num, by omega, Nat.le_refl _, by rw [size_swp]; exact hs, Lib.hid (swap_world encU (by omega) (by omega) HW3.out (by rw [HG.out]; rfl) (by rw [HG.out])), Lib.hid ?_⟩
              rw [← HE.out, HC.out.2.2.2 (by rw [HG.out, HG.out]; exact hS)]
        · have hL : ltInt (G (F + 2 * root + 1)) (G (F + 2 * root + 2)) = false := by assumption
          have HC : Hid (SdC hi F root (2 * root + 1) D) := Lib.hid (sdC_left (by omega) (fun _ => by rw [HG.out, HG.out]; exact hL))
          revert nq; intro nq1
          have HW2 : Hid (wr.drewN nq1 = putRow encU (Sort.ahead w (n + nq1)) blk off D) := Lib.hid (by rw [HW.out]; exact putRow_drewN _ _ _ _ _ _ _)
          have hcw2 : ∀ t, t < d.size → (wr.drewN nq1).cell? ⟨blk, off + t, none⟩ = some (.int .u64 (G t)) := hcw
          have hfw2 : ∀ t, t < d.size → (wr.drewN nq1).frozen? ⟨blk, off + t, none⟩ = false := hfw
          clear hcw hfw HW
          generalize wr.drewN nq1 = wr2 at hcw2 hfw2 HW2 ⊢
          go_big_quiet (first | (go_at_call 64; refine Calls.quiet_of_same (uLess _ _ _)))
          go_wp2_with fail
          · have hS : ltInt (G (F + root)) (G (F + (2 * root + 1))) = false := by
              have : (!ltInt (G (F + root)) (G (F + 2 * root + 1))) = true := by assumption
              rw [show F + (2 * root + 1) = F + 2 * root + 1 by omega]
              simpa using this
            (try simp only [Exit.inBlock, Exit.then])
            refine bodyPost_ret (results_none rfl _ _ _) rfl ?_
            refine ⟨rfl, n + nq1 + nq, ?_⟩
            rw [← HE.out, HC.out.2.2.1 (by rw [HG.out, HG.out]; exact hS), HW2.out]
            exact putRow_drewN _ _ _ _ _ _ _
          · have hS : ltInt (G (F + root)) (G (F + (2 * root + 1))) = true := by
              have : (!ltInt (G (F + root)) (G (F + 2 * root + 1))) = false := by assumption
              rw [show F + (2 * root + 1) = F + 2 * root + 1 by omega]
              simpa using this
            have HW3 : Hid (wr2.drewN nq = putRow encU (Sort.ahead w (n + nq1 + nq)) blk off D) := Lib.hid (by rw [HW2.out]; exact putRow_drewN _ _ _ _ _ _ _)
            have hcw3 : ∀ t, t < d.size → (wr2.drewN nq).cell? ⟨blk, off + t, none⟩ = some (.int .u64 (G t)) := hcw2
            have hfw3 : ∀ t, t < d.size → (wr2.drewN nq).frozen? ⟨blk, off + t, none⟩ = false := hfw2
            clear hcw2 hfw2 HW2
            generalize wr2.drewN nq = wr3 at hcw3 hfw3 HW3 ⊢
            go_region
            go_wp2
            go_roundg (hi - ((2 * root + 1)))
            case measure => omega
            case rel =>
              refine ⟨(2 * root + 1), swp D (F + root) (F + ((2 * root + 1))), n + nq1 + nq + 1, by go_num, by omega, Nat.le_refl _, by rw [size_swp]; exact hs, Lib.hid (swap_world encU (by omega) (by omega) HW3.out (by rw [HG.out]; rfl) (by rw [HG.out])), Lib.hid ?_⟩
              rw [← HE.out, HC.out.2.2.2 (by rw [HG.out, HG.out]; exact hS)]
      · have h1z : decide (2 * (root : Int) + 1 + 1 < (hi : Int)) = false := decide_eq_false (by omega)
        have HC : Hid (SdC hi F root (2 * root + 1) D) := Lib.hid (sdC_left (by omega) (fun h => absurd h h1))
        go_wp2_with fail
        go_big_quiet (first | (go_at_call 64; refine Calls.quiet_of_same (uLess _ _ _)))
        go_wp2_with fail
        revert nq; intro nq1
        have HW2 : Hid (wr.drewN nq1 = putRow encU (Sort.ahead w (n + nq1)) blk off D) := Lib.hid (by rw [HW.out]; exact putRow_drewN _ _ _ _ _ _ _)
        have hcw2 : ∀ t, t < d.size → (wr.drewN nq1).cell? ⟨blk, off + t, none⟩ = some (.int .u64 (G t)) := hcw
        have hfw2 : ∀ t, t < d.size → (wr.drewN nq1).frozen? ⟨blk, off + t, none⟩ = false := hfw
        clear hcw hfw HW
        generalize wr.drewN nq1 = wr2 at hcw2 hfw2 HW2 ⊢
        go_big_quiet (first | (go_at_call 64; refine Calls.quiet_of_same (uLess _ _ _)))
        go_wp2_with fail
        · have hS : ltInt (G (F + root)) (G (F + (2 * root + 1))) = false := by
            have : (!ltInt (G (F + root)) (G (F + 2 * root + 1))) = true := by assumption
            rw [show F + (2 * root + 1) = F + 2 * root + 1 by omega]
            simpa using this
          (try simp only [Exit.inBlock, Exit.then])
          refine bodyPost_ret (results_none rfl _ _ _) rfl ?_
          refine ⟨rfl, n + nq1 + nq, ?_⟩
          rw [← HE.out, HC.out.2.2.1 (by rw [HG.out, HG.out]; exact hS), HW2.out]
          exact putRow_drewN _ _ _ _ _ _ _
        · have hS : ltInt (G (F + root)) (G (F + (2 * root + 1))) = true := by
            have : (!ltInt (G (F + root)) (G (F + 2 * root + 1))) = false := by assumption
            rw [show F + (2 * root + 1) = F + 2 * root + 1 by omega]
            simpa using this
          have HW3 : Hid (wr2.drewN nq = putRow encU (Sort.ahead w (n + nq1 + nq)) blk off D) := Lib.hid (by rw [HW2.out]; exact putRow_drewN _ _ _ _ _ _ _)
          have hcw3 : ∀ t, t < d.size → (wr2.drewN nq).cell? ⟨blk, off + t, none⟩ = some (.int .u64 (G t)) := hcw2
          have hfw3 : ∀ t, t < d.size → (wr2.drewN nq).frozen? ⟨blk, off + t, none⟩ = false := hfw2
          clear hcw2 hfw2 HW2
          generalize wr2.drewN nq = wr3 at hcw3 hfw3 HW3 ⊢
          go_region
          go_wp2
          go_roundg (hi - ((2 * root + 1)))
          case measure => omega
          case rel =>
            refine ⟨(2 * root + 1), swp D (F + root) (F + ((2 * root + 1))), n + nq1 + nq + 1, by go_num, by omega, Nat.le_refl _, by rw [size_swp]; exact hs, Lib.hid (swap_world encU (by omega) (by omega) HW3.out (by rw [HG.out]; rfl) (by rw [HG.out])), Lib.hid ?_⟩
            rw [← HE.out, HC.out.2.2.2 (by rw [HG.out, HG.out]; exact hS)]
end Go.Proofs.Ytepjdnokkgmhoaa
