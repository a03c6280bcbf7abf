/- Walks of the library's sort at uint64: partialInsertionSort. Printed by gen_zc.py. -/
import Derived.Test.YtepjdnokkgmhoaaZ5
import Derived.Sort.WalkA6
namespace Go.Proofs.Ytepjdnokkgmhoaa
open Go.RowKit Go.Sort Go.Proofs
set_option maxHeartbeats 16000000 in
set_option maxRecDepth 100000 in
theorem uPartial (blk off cap a b : Nat) (d : Array Int) (w : World) (hH : Holds encU w blk off d) (hab : a < b) (hb : b ≤ d.size) (hsz : d.size < 4611686018427387904) :
    Calls Try.prog 63 #[.slice (some ⟨blk, off, none⟩) d.size cap, .int .i64 a, .int .i64 b] w fun e w' =>
      e = .returned (.bool (Sort.partialInsertionSort ltInt d a b).2) ∧ ∃ n, w' = putRow encU (Sort.ahead w n) blk off (Sort.partialInsertionSort ltInt d a b).1 := by
  have HHO := Lib.hid hH
  have HW0 : Hid (w = putRow encU (Sort.ahead w 0) blk off d) := Lib.hid (putRow_self _ _ _ _ _ hH).symm
  obtain ⟨R, hR⟩ : ∃ R, R = Sort.partialInsertionSort ltInt d a b := ⟨_, rfl⟩
  have HR : Hid (partialIns ltInt a b 5 (a + 1) d = R) := Lib.hid (by rw [hR]; rfl)
  rw [← hR]
  clear hR hH
  go_enter Try.func63, Try.ntmps63
  go_wp2_with fail
  go_loopw [7, 8] (fun vi vs wr => ∃ (i s n : Nat) (D : Array Int), vi = .int .i64 i ∧ vs = .int .i64 s ∧ s ≤ 5 ∧ a < i ∧ i ≤ b ∧ D.size = d.size ∧ Hid (wr = putRow encU (Sort.ahead w n) blk off D) ∧
      Hid (partialIns ltInt a b (5 - s) i D = R)) (fun _ vs _ => 5 - (Go.Proofs.intOf vs).toNat)
  case atStart => exact ⟨a + 1, 0, 0, d, by go_num, rfl, by omega, by omega, by omega, rfl, HW0, HR⟩
  case round =>
    clear HW0 HR
    obtain ⟨i, s, n, D, rfl, rfl, hs5, hai, hib, hs, HW, HO⟩ := hrel
    by_cases q5 : s < 5
    · have q5z : (s : Int) < 5 := by omega
      go_wp2_with fail
      go_loopw [7] (fun vi wr2 => ∃ (k m : Nat), vi = .int .i64 k ∧ i ≤ k ∧ k ≤ b ∧ Hid (wr2 = putRow encU (Sort.ahead w m) blk off D) ∧ Hid (scanSorted ltInt D b k = scanSorted ltInt D b i)) (fun vi _ => b - (Go.Proofs.intOf vi).toNat)
      case atStart => exact ⟨i, n, rfl, Nat.le_refl _, hib, HW, Lib.hid rfl⟩
      case round =>
        clear HW
        obtain ⟨k, m, rfl, hik, hkb, HW2, HS⟩ := hrel
        obtain ⟨G, hG⟩ : ∃ G : Nat → Int, ∀ t, D[t]! = G t := ⟨fun t => D[t]!, fun _ => rfl⟩
        have HG := Lib.hid hG
        clear hG
        by_cases hkb' : k < b
        · have hkz : (k : Int) < (b : Int) := by omega
          obtain ⟨hcw, hfw⟩ := row_reads HHO.out hs HW2.out
          simp only [HG.out] at hcw
          go_wp2_with fail
          go_big_quiet (first | (go_at_call 64; refine Calls.quiet_of_same (uLess _ _ _)))
          clear hcw hfw
          go_wp2_with fail
          · have ht : (!ltInt (G k) (G (k - 1))) = true := by assumption
            have hl : ltInt (G k) (G (k - 1)) = false := by simpa using ht
            go_wp2
            go_roundw
            case rel => exact ⟨k + 1, m + nq, by go_num, by omega, by omega, draws_U HW2 nq, Lib.hid (by rw [← HS.out, scanSorted_go ltInt D b k hkb' (by rw [HG.out, HG.out]; exact hl)])⟩
            case measure => simp [Go.Proofs.intOf]; omega
          · have ht : (!ltInt (G k) (G (k - 1))) = false := by assumption
            have hl : ltInt (G k) (G (k - 1)) = true := by simpa using ht
            have HK : Hid (scanSorted ltInt D b i = k) := Lib.hid (by rw [← HS.out, scanSorted_stop ltInt D b k (.inr (by rw [HG.out, HG.out]; exact hl))])
            have HWu := draws_U HW2 nq
            clear HS HW2 ht hl
            generalize wr.drewN nq = wu at HWu ⊢
            have h50 : b - a < 50 := by omega
            have hv : R = (D, false) := by rw [← HO.out, pi_short ltInt a b s i D q5 (by rw [HK.out]; omega) h50]
            rw [hv]
            go_ret
            exact ⟨rfl, m + nq, HWu.out⟩
          · have ht : (!ltInt (G k) (G (k - 1))) = false := by assumption
            have hl : ltInt (G k) (G (k - 1)) = true := by simpa using ht
            have HK : Hid (scanSorted ltInt D b i = k) := Lib.hid (by rw [← HS.out, scanSorted_stop ltInt D b k (.inr (by rw [HG.out, HG.out]; exact hl))])
            have HWu := draws_U HW2 nq
            clear HS HW2 ht hl
            generalize wr.drewN nq = wu at HWu ⊢
            have h50 : ¬ b - a < 50 := by omega
            obtain ⟨hcw, hfw⟩ := row_reads HHO.out hs HWu.out
            simp only [HG.out] at hcw
            go_region
            have HWs := swap_U HWu (i := k) (j := k - 1) (by omega) (by omega) (HG.out _) (HG.out _)
            have hs1 : (swp D k (k - 1)).size = d.size := by rw [size_swp]; exact hs
            clear hcw hfw HG HWu
            by_cases hka : k - a ≥ 2
            · have hkaz : (k : Int) - (a : Int) ≥ 2 := by omega
              by_cases hkb2 : b - k ≥ 2
              · have hkb2z : (b : Int) - (k : Int) ≥ 2 := by omega
                go_wp2_with fail
                go_loopw [9] (fun vj wr2 => ∃ (j m2 : Nat) (E : Array Int), vj = .int .i64 j ∧ j ≤ k - 1 ∧ E.size = d.size ∧ Hid (wr2 = putRow encU (Sort.ahead w m2) blk off E) ∧ Hid (shiftDown ltInt j E = shiftDown ltInt (k - 1) (swp D k (k - 1)))) (fun vj _ => (Go.Proofs.intOf vj).toNat)
                case atStart => exact ⟨k - 1, _, swp D k (k - 1), by congr 1; omega, Nat.le_refl _, hs1, HWs, Lib.hid rfl⟩
                case round =>
                  clear HWs
                  obtain ⟨j, m2, E, rfl, hjk, hsE, HWd, HDn⟩ := hrel
                  obtain ⟨G, hG⟩ : ∃ G : Nat → Int, ∀ t, E[t]! = G t := ⟨fun t => E[t]!, fun _ => rfl⟩
                  have HG := Lib.hid hG
                  clear hG
                  by_cases hj : 1 ≤ j
                  · have hjz : (j : Int) ≥ 1 := by omega
                    obtain ⟨hcw, hfw⟩ := row_reads HHO.out hsE HWd.out
                    simp only [HG.out] at hcw
                    go_wp2_with fail
                    go_big_quiet (first | (go_at_call 64; refine Calls.quiet_of_same (uLess _ _ _)))
                    clear hcw hfw
                    go_wp2_with fail
                    · have ht : (!ltInt (G j) (G (j - 1))) = true := by assumption
                      have hl : ltInt (G j) (G (j - 1)) = false := by simpa using ht
                      have HWy := draws_U HWd nq
                      generalize wr.drewN nq = wy at HWy ⊢
                      have HD : Hid (fixDown ltInt a k (swp D k (k - 1)) = E) := Lib.hid (by unfold fixDown; rw [if_pos hka, ← HDn.out, shiftDown_stop ltInt j E (.inr (by rw [HG.out, HG.out]; exact hl))])
                      clear HDn HG
                      go_loopw [10] (fun vj wr3 => ∃ (j m3 : Nat) (U : Array Int), vj = .int .i64 j ∧ k + 1 ≤ j ∧ j ≤ b ∧ U.size = d.size ∧ Hid (wr3 = putRow encU (Sort.ahead w m3) blk off U) ∧ Hid (shiftUp ltInt b j U = shiftUp ltInt b (k + 1) E)) (fun vj _ => b - (Go.Proofs.intOf vj).toNat)
                      case atStart => exact ⟨k + 1, _, E, by go_num, Nat.le_refl _, by omega, hsE, HWy, Lib.hid rfl⟩
                      case round =>
                        clear HWy
                        obtain ⟨j, m3, U, rfl, hkj, hjb, hsU, HW3, HU⟩ := hrel
                        obtain ⟨G, hG⟩ : ∃ G : Nat → Int, ∀ t, U[t]! = G t := ⟨fun t => U[t]!, fun _ => rfl⟩
                        have HG := Lib.hid hG
                        clear hG
                        by_cases hj : j < b
                        · have hjz : (j : Int) < (b : Int) := by omega
                          obtain ⟨hcw, hfw⟩ := row_reads HHO.out hsU HW3.out
                          simp only [HG.out] at hcw
                          go_wp2_with fail
                          go_big_quiet (first | (go_at_call 64; refine Calls.quiet_of_same (uLess _ _ _)))
                          clear hcw hfw
                          go_wp2_with fail
                          · have ht : (!ltInt (G j) (G (j - 1))) = true := by assumption
                            have hl : ltInt (G j) (G (j - 1)) = false := by simpa using ht
                            have HWx := draws_U HW3 nq
                            generalize wr.drewN nq = wx at HWx ⊢
                            have HF : Hid (fixUp ltInt b k E = U) := Lib.hid (by unfold fixUp; rw [if_pos (by omega), ← HU.out, shiftUp_stop ltInt b j U (.inr (by rw [HG.out, HG.out]; exact hl))])
                            go_roundw
                            case rel =>
                              refine ⟨k, s + 1, _, U, rfl, by go_num, by omega, by omega, by omega, hsU, HWx, Lib.hid ?_⟩
                              rw [← HO.out, pi_go ltInt a b s i k D q5 HK.out (by omega) (by omega), HD.out, HF.out]
                            case measure => simp [Go.Proofs.intOf]; omega
                          · have ht : (!ltInt (G j) (G (j - 1))) = false := by assumption
                            have hl : ltInt (G j) (G (j - 1)) = true := by simpa using ht
                            have HWx := draws_U HW3 nq
                            generalize wr.drewN nq = wx at HWx ⊢
                            obtain ⟨hcw, hfw⟩ := row_reads HHO.out hsU HWx.out
                            simp only [HG.out] at hcw
                            go_region
                            go_wp2_with fail
                            go_roundw
                            case rel => exact ⟨j + 1, _, swp U j (j - 1), by go_num, by omega, by omega, by rw [size_swp]; exact hsU, swap_U HWx (by omega) (by omega) (HG.out _) (HG.out _), Lib.hid (by rw [← HU.out, shiftUp_go ltInt b j U (by omega) (by rw [HG.out, HG.out]; exact hl)])⟩
                            case measure => simp [Go.Proofs.intOf]; omega
                        · have hjz : decide ((j : Int) < (b : Int)) = false := decide_eq_false (by omega)
                          go_wp2_with fail
                          have HF : Hid (fixUp ltInt b k E = U) := Lib.hid (by unfold fixUp; rw [if_pos (by omega), ← HU.out, shiftUp_stop ltInt b j U (.inl hj)])
                          go_roundw
                          case rel =>
                            refine ⟨k, s + 1, _, U, rfl, by go_num, by omega, by omega, by omega, hsU, HW3, Lib.hid ?_⟩
                            rw [← HO.out, pi_go ltInt a b s i k D q5 HK.out (by omega) (by omega), HD.out, HF.out]
                          case measure => simp [Go.Proofs.intOf]; omega
                    · have ht : (!ltInt (G j) (G (j - 1))) = false := by assumption
                      have hl : ltInt (G j) (G (j - 1)) = true := by simpa using ht
                      have HWy := draws_U HWd nq
                      generalize wr.drewN nq = wy at HWy ⊢
                      obtain ⟨hcw, hfw⟩ := row_reads HHO.out hsE HWy.out
                      simp only [HG.out] at hcw
                      go_region
                      go_wp2_with fail
                      go_roundw
                      case rel => exact ⟨j - 1, _, swp E j (j - 1), by congr 1; omega, by omega, by rw [size_swp]; exact hsE, swap_U HWy (by omega) (by omega) (HG.out _) (HG.out _), Lib.hid (by rw [← HDn.out, shiftDown_go ltInt j E (by omega) (by rw [HG.out, HG.out]; exact hl)])⟩
                      case measure => simp [Go.Proofs.intOf]; omega
                  · have hjz : decide ((j : Int) ≥ 1) = false := decide_eq_false (by omega)
                    go_wp2_with fail
                    have HD : Hid (fixDown ltInt a k (swp D k (k - 1)) = E) := Lib.hid (by unfold fixDown; rw [if_pos hka, ← HDn.out, shiftDown_stop ltInt j E (.inl (by omega))])
                    clear HDn HG
                    go_loopw [10] (fun vj wr3 => ∃ (j m3 : Nat) (U : Array Int), vj = .int .i64 j ∧ k + 1 ≤ j ∧ j ≤ b ∧ U.size = d.size ∧ Hid (wr3 = putRow encU (Sort.ahead w m3) blk off U) ∧ Hid (shiftUp ltInt b j U = shiftUp ltInt b (k + 1) E)) (fun vj _ => b - (Go.Proofs.intOf vj).toNat)
                    case atStart => exact ⟨k + 1, _, E, by go_num, Nat.le_refl _, by omega, hsE, HWd, Lib.hid rfl⟩
                    case round =>
                      clear HWd
                      obtain ⟨j, m3, U, rfl, hkj, hjb, hsU, HW3, HU⟩ := hrel
                      obtain ⟨G, hG⟩ : ∃ G : Nat → Int, ∀ t, U[t]! = G t := ⟨fun t => U[t]!, fun _ => rfl⟩
                      have HG := Lib.hid hG
                      clear hG
                      by_cases hj : j < b
                      · have hjz : (j : Int) < (b : Int) := by omega
                        obtain ⟨hcw, hfw⟩ := row_reads HHO.out hsU HW3.out
                        simp only [HG.out] at hcw
                        go_wp2_with fail
                        go_big_quiet (first | (go_at_call 64; refine Calls.quiet_of_same (uLess _ _ _)))
                        clear hcw hfw
                        go_wp2_with fail
                        · have ht : (!ltInt (G j) (G (j - 1))) = true := by assumption
                          have hl : ltInt (G j) (G (j - 1)) = false := by simpa using ht
                          have HWx := draws_U HW3 nq
                          generalize wr.drewN nq = wx at HWx ⊢
                          have HF : Hid (fixUp ltInt b k E = U) := Lib.hid (by unfold fixUp; rw [if_pos (by omega), ← HU.out, shiftUp_stop ltInt b j U (.inr (by rw [HG.out, HG.out]; exact hl))])
                          go_roundw
                          case rel =>
                            refine ⟨k, s + 1, _, U, rfl, by go_num, by omega, by omega, by omega, hsU, HWx, Lib.hid ?_⟩
                            rw [← HO.out, pi_go ltInt a b s i k D q5 HK.out (by omega) (by omega), HD.out, HF.out]
                          case measure => simp [Go.Proofs.intOf]; omega
                        · have ht : (!ltInt (G j) (G (j - 1))) = false := by assumption
                          have hl : ltInt (G j) (G (j - 1)) = true := by simpa using ht
                          have HWx := draws_U HW3 nq
                          generalize wr.drewN nq = wx at HWx ⊢
                          obtain ⟨hcw, hfw⟩ := row_reads HHO.out hsU HWx.out
                          simp only [HG.out] at hcw
                          go_region
                          go_wp2_with fail
                          go_roundw
                          case rel => exact ⟨j + 1, _, swp U j (j - 1), by go_num, by omega, by omega, by rw [size_swp]; exact hsU, swap_U HWx (by omega) (by omega) (HG.out _) (HG.out _), Lib.hid (by rw [← HU.out, shiftUp_go ltInt b j U (by omega) (by rw [HG.out, HG.out]; exact hl)])⟩
                          case measure => simp [Go.Proofs.intOf]; omega
                      · have hjz : decide ((j : Int) < (b : Int)) = false := decide_eq_false (by omega)
                        go_wp2_with fail
                        have HF : Hid (fixUp ltInt b k E = U) := Lib.hid (by unfold fixUp; rw [if_pos (by omega), ← HU.out, shiftUp_stop ltInt b j U (.inl hj)])
                        go_roundw
                        case rel =>
                          refine ⟨k, s + 1, _, U, rfl, by go_num, by omega, by omega, by omega, hsU, HW3, Lib.hid ?_⟩
                          rw [← HO.out, pi_go ltInt a b s i k D q5 HK.out (by omega) (by omega), HD.out, HF.out]
                        case measure => simp [Go.Proofs.intOf]; omega
              · have hkb2z : decide ((b : Int) - (k : Int) ≥ 2) = false := decide_eq_false (by omega)
                go_wp2_with fail
                go_loopw [9] (fun vj wr2 => ∃ (j m2 : Nat) (E : Array Int), vj = .int .i64 j ∧ j ≤ k - 1 ∧ E.size = d.size ∧ Hid (wr2 = putRow encU (Sort.ahead w m2) blk off E) ∧ Hid (shiftDown ltInt j E = shiftDown ltInt (k - 1) (swp D k (k - 1)))) (fun vj _ => (Go.Proofs.intOf vj).toNat)
                case atStart => exact ⟨k - 1, _, swp D k (k - 1), by congr 1; omega, Nat.le_refl _, hs1, HWs, Lib.hid rfl⟩
                case round =>
                  clear HWs
                  obtain ⟨j, m2, E, rfl, hjk, hsE, HWd, HDn⟩ := hrel
                  obtain ⟨G, hG⟩ : ∃ G : Nat → Int, ∀ t, E[t]! = G t := ⟨fun t => E[t]!, fun _ => rfl⟩
                  have HG := Lib.hid hG
                  clear hG
                  by_cases hj : 1 ≤ j
                  · have hjz : (j : Int) ≥ 1 := by omega
                    obtain ⟨hcw, hfw⟩ := row_reads HHO.out hsE HWd.out
                    simp only [HG.out] at hcw
                    go_wp2_with fail
                    go_big_quiet (first | (go_at_call 64; refine Calls.quiet_of_same (uLess _ _ _)))
                    clear hcw hfw
                    go_wp2_with fail
                    · have ht : (!ltInt (G j) (G (j - 1))) = true := by assumption
                      have hl : ltInt (G j) (G (j - 1)) = false := by simpa using ht
                      have HWy := draws_U HWd nq
                      generalize wr.drewN nq = wy at HWy ⊢
                      have HD : Hid (fixDown ltInt a k (swp D k (k - 1)) = E) := Lib.hid (by unfold fixDown; rw [if_pos hka, ← HDn.out, shiftDown_stop ltInt j E (.inr (by rw [HG.out, HG.out]; exact hl))])
                      clear HDn HG
                      have HF : Hid (fixUp ltInt b k E = E) := Lib.hid (by unfold fixUp; rw [if_neg (by omega)])
                      go_roundw
                      case rel =>
                        refine ⟨k, s + 1, _, E, rfl, by go_num, by omega, by omega, by omega, hsE, HWy, Lib.hid ?_⟩
                        rw [← HO.out, pi_go ltInt a b s i k D q5 HK.out (by omega) (by omega), HD.out, HF.out]
                      case measure => simp [Go.Proofs.intOf]; omega
                    · have ht : (!ltInt (G j) (G (j - 1))) = false := by assumption
                      have hl : ltInt (G j) (G (j - 1)) = true := by simpa using ht
                      have HWy := draws_U HWd nq
                      generalize wr.drewN nq = wy at HWy ⊢
                      obtain ⟨hcw, hfw⟩ := row_reads HHO.out hsE HWy.out
                      simp only [HG.out] at hcw
                      go_region
                      go_wp2_with fail
                      go_roundw
                      case rel => exact ⟨j - 1, _, swp E j (j - 1), by congr 1; omega, by omega, by rw [size_swp]; exact hsE, swap_U HWy (by omega) (by omega) (HG.out _) (HG.out _), Lib.hid (by rw [← HDn.out, shiftDown_go ltInt j E (by omega) (by rw [HG.out, HG.out]; exact hl)])⟩
                      case measure => simp [Go.Proofs.intOf]; omega
                  · have hjz : decide ((j : Int) ≥ 1) = false := decide_eq_false (by omega)
                    go_wp2_with fail
                    have HD : Hid (fixDown ltInt a k (swp D k (k - 1)) = E) := Lib.hid (by unfold fixDown; rw [if_pos hka, ← HDn.out, shiftDown_stop ltInt j E (.inl (by omega))])
                    clear HDn HG
                    have HF : Hid (fixUp ltInt b k E = E) := Lib.hid (by unfold fixUp; rw [if_neg (by omega)])
                    go_roundw
                    case rel =>
                      refine ⟨k, s + 1, _, E, rfl, by go_num, by omega, by omega, by omega, hsE, HWd, Lib.hid ?_⟩
                      rw [← HO.out, pi_go ltInt a b s i k D q5 HK.out (by omega) (by omega), HD.out, HF.out]
                    case measure => simp [Go.Proofs.intOf]; omega
            · have hkaz : decide ((k : Int) - (a : Int) ≥ 2) = false := decide_eq_false (by omega)
              by_cases hkb2 : b - k ≥ 2
              · have hkb2z : (b : Int) - (k : Int) ≥ 2 := by omega
                go_wp2_with fail
                have HD : Hid (fixDown ltInt a k (swp D k (k - 1)) = swp D k (k - 1)) := Lib.hid (by unfold fixDown; rw [if_neg hka])
                go_loopw [10] (fun vj wr3 => ∃ (j m3 : Nat) (U : Array Int), vj = .int .i64 j ∧ k + 1 ≤ j ∧ j ≤ b ∧ U.size = d.size ∧ Hid (wr3 = putRow encU (Sort.ahead w m3) blk off U) ∧ Hid (shiftUp ltInt b j U = shiftUp ltInt b (k + 1) (swp D k (k - 1)))) (fun vj _ => b - (Go.Proofs.intOf vj).toNat)
                case atStart => exact ⟨k + 1, _, (swp D k (k - 1)), by go_num, Nat.le_refl _, by omega, hs1, HWs, Lib.hid rfl⟩
                case round =>
                  clear HWs
                  obtain ⟨j, m3, U, rfl, hkj, hjb, hsU, HW3, HU⟩ := hrel
                  obtain ⟨G, hG⟩ : ∃ G : Nat → Int, ∀ t, U[t]! = G t := ⟨fun t => U[t]!, fun _ => rfl⟩
                  have HG := Lib.hid hG
                  clear hG
                  by_cases hj : j < b
                  · have hjz : (j : Int) < (b : Int) := by omega
                    obtain ⟨hcw, hfw⟩ := row_reads HHO.out hsU HW3.out
                    simp only [HG.out] at hcw
                    go_wp2_with fail
                    go_big_quiet (first | (go_at_call 64; refine Calls.quiet_of_same (uLess _ _ _)))
                    clear hcw hfw
                    go_wp2_with fail
                    · have ht : (!ltInt (G j) (G (j - 1))) = true := by assumption
                      have hl : ltInt (G j) (G (j - 1)) = false := by simpa using ht
                      have HWx := draws_U HW3 nq
                      generalize wr.drewN nq = wx at HWx ⊢
                      have HF : Hid (fixUp ltInt b k (swp D k (k - 1)) = U) := Lib.hid (by unfold fixUp; rw [if_pos (by omega), ← HU.out, shiftUp_stop ltInt b j U (.inr (by rw [HG.out, HG.out]; exact hl))])
                      go_roundw
                      case rel =>
                        refine ⟨k, s + 1, _, U, rfl, by go_num, by omega, by omega, by omega, hsU, HWx, Lib.hid ?_⟩
                        rw [← HO.out, pi_go ltInt a b s i k D q5 HK.out (by omega) (by omega), HD.out, HF.out]
                      case measure => simp [Go.Proofs.intOf]; omega
                    · have ht : (!ltInt (G j) (G (j - 1))) = false := by assumption
                      have hl : ltInt (G j) (G (j - 1)) = true := by simpa using ht
                      have HWx := draws_U HW3 nq
                      generalize wr.drewN nq = wx at HWx ⊢
                      obtain ⟨hcw, hfw⟩ := row_reads HHO.out hsU HWx.out
                      simp only [HG.out] at hcw
                      go_region
                      go_wp2_with fail
                      go_roundw
                      case rel => exact ⟨j + 1, _, swp U j (j - 1), by go_num, by omega, by omega, by rw [size_swp]; exact hsU, swap_U HWx (by omega) (by omega) (HG.out _) (HG.out _), Lib.hid (by rw [← HU.out, shiftUp_go ltInt b j U (by omega) (by rw [HG.out, HG.out]; exact hl)])⟩
                      case measure => simp [Go.Proofs.intOf]; omega
                  · have hjz : decide ((j : Int) < (b : Int)) = false := decide_eq_false (by omega)
                    go_wp2_with fail
                    have HF : Hid (fixUp ltInt b k (swp D k (k - 1)) = U) := Lib.hid (by unfold fixUp; rw [if_pos (by omega), ← HU.out, shiftUp_stop ltInt b j U (.inl hj)])
                    go_roundw
                    case rel =>
                      refine ⟨k, s + 1, _, U, rfl, by go_num, by omega, by omega, by omega, hsU, HW3, Lib.hid ?_⟩
                      rw [← HO.out, pi_go ltInt a b s i k D q5 HK.out (by omega) (by omega), HD.out, HF.out]
                    case measure => simp [Go.Proofs.intOf]; omega
              · have hkb2z : decide ((b : Int) - (k : Int) ≥ 2) = false := decide_eq_false (by omega)
                go_wp2_with fail
                have HD : Hid (fixDown ltInt a k (swp D k (k - 1)) = swp D k (k - 1)) := Lib.hid (by unfold fixDown; rw [if_neg hka])
                have HF : Hid (fixUp ltInt b k (swp D k (k - 1)) = (swp D k (k - 1))) := Lib.hid (by unfold fixUp; rw [if_neg (by omega)])
                go_roundw
                case rel =>
                  refine ⟨k, s + 1, _, (swp D k (k - 1)), rfl, by go_num, by omega, by omega, by omega, hs1, HWs, Lib.hid ?_⟩
                  rw [← HO.out, pi_go ltInt a b s i k D q5 HK.out (by omega) (by omega), HD.out, HF.out]
                case measure => simp [Go.Proofs.intOf]; omega
        · have hkz : decide ((k : Int) < (b : Int)) = false := decide_eq_false (by omega)
          have hkbz : (k : Int) = (b : Int) := by omega
          obtain ⟨hcw, hfw⟩ := row_reads HHO.out hs HW2.out
          simp only [HG.out] at hcw
          go_wp2_with fail
          go_big_quiet (first | (go_at_call 64; refine Calls.quiet_of_same (uLess _ _ _)))
          clear hcw hfw
          go_wp2_with fail
          have HWu := draws_U HW2 nq
          generalize wr.drewN nq = wu at HWu ⊢
          have hv : R = (D, true) := by rw [← HO.out, pi_true ltInt a b s i D q5 (by rw [← HS.out, scanSorted_stop ltInt D b k (.inl hkb')]; omega)]
          rw [hv]
          go_ret
          exact ⟨rfl, m + nq, HWu.out⟩
    · obtain rfl : s = 5 := by omega
      go_wp2_with fail
      have hv : R = (D, false) := by rw [← HO.out, pi_end]
      rw [hv]
      go_ret
      exact ⟨rfl, n, HW.out⟩
end Go.Proofs.Ytepjdnokkgmhoaa
