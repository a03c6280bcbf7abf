/- Walks of the library's sort at uint64: partitionEqual, partition. Printed by gen_z5.py. -/
import Derived.Test.YtepjdnokkgmhoaaZ1
import Derived.Sort.WalkC4
import Derived.Sort.WalkB12
namespace Go.Proofs.Ytepjdnokkgmhoaa
open Go.RowKit Go.Sort Go.Proofs
theorem swap_U {w wr : World} {n blk off : Nat} {D : Array Int} {i j : Nat} {x y : Int} (hw : Hid (wr = putRow encU (Sort.ahead w n) blk off D)) (hi : i < D.size) (hj : j < D.size) (hx : D[j]! = x) (hy : D[i]! = y) :
    Hid (((wr.setCell ⟨blk, off + i, none⟩ (.int .u64 x)).setCell ⟨blk, off + j, none⟩ (.int .u64 y)).drew = putRow encU (Sort.ahead w (n + 1)) blk off (swp D i j)) := Lib.hid (swap_world encU hi hj hw.out (by rw [hx]) (by rw [hy]))
theorem draws_U {w wr : World} {n blk off : Nat} {D : Array Int} (hw : Hid (wr = putRow encU (Sort.ahead w n) blk off D)) (q : Nat) : Hid (wr.drewN q = putRow encU (Sort.ahead w (n + q)) blk off D) := Lib.hid (by rw [hw.out]; exact putRow_drewN _ _ _ _ _ _ _)
set_option maxHeartbeats 8000000 in
set_option maxRecDepth 100000 in
theorem uPartEq (blk off cap a b pivot : Nat) (d : Array Int) (w : World) (hH : Holds encU w blk off d) (hap : a ≤ pivot) (hpb : pivot < b) (hb : b ≤ d.size) (hsz : d.size < 4611686018427387904) :
    Calls Try.prog 65 #[.slice (some ⟨blk, off, none⟩) d.size cap, .int .i64 a, .int .i64 b, .int .i64 pivot] w fun e w' =>
      e = .returned (.int .i64 (Sort.partitionEqual ltInt d a b pivot).1) ∧ ∃ n, w' = putRow encU (Sort.ahead w n) blk off (Sort.partitionEqual ltInt d a b pivot).2 := by
  have HHO := Lib.hid hH
  obtain ⟨G0, hG0⟩ : ∃ G0 : Nat → Int, ∀ t, d[t]! = G0 t := ⟨fun t => d[t]!, fun _ => rfl⟩
  have HG0 := Lib.hid hG0
  have HW0 : Hid (w = putRow encU (Sort.ahead w 0) blk off d) := Lib.hid (putRow_self _ _ _ _ _ hH).symm
  obtain ⟨hcw, hfw⟩ := row_reads hH rfl HW0.out
  simp only [hG0] at hcw
  have cp := hcw pivot (by omega)
  obtain ⟨v', hy'⟩ := cell?_setCell_some (w := w) (p := ⟨blk, off + a, none⟩) (x := .int .u64 (G0 pivot)) (q := ⟨blk, off + pivot, none⟩) cp
  clear hH hG0 cp
  go_enter Try.func65, Try.ntmps65
  go_wp2_with fail
  go_region
  have HWs := swap_U HW0 (i := a) (j := pivot) (by omega) (by omega) (HG0.out _) (HG0.out _)
  clear hcw hfw hy' v'
  go_wp2_with fail
  go_loopw [9, 10] (fun vi vj wr => ∃ (i j n : Nat) (D : Array Int), vi = .int .i64 i ∧ vj = .int .i64 j ∧ a < i ∧ i ≤ j + 1 ∧ j < b ∧ D.size = d.size ∧ Hid (wr = putRow encU (Sort.ahead w n) blk off D) ∧
      Hid (partEqLoop ltInt a i j D = partEqLoop ltInt a (a + 1) (b - 1) (swp d a pivot))) (fun vi vj _ => (Go.Proofs.intOf vj).toNat + 1 - (Go.Proofs.intOf vi).toNat)
  case atStart => exact ⟨a + 1, b - 1, _, swp d a pivot, by go_num, by congr 1; omega, by omega, by omega, by omega, size_swp _ _ _, HWs, Lib.hid rfl⟩
  case round =>
    obtain ⟨i, j, n, D, rfl, rfl, hai, hij, hjb, hs, HW, HE⟩ := hrel
    obtain ⟨G, hG⟩ : ∃ G : Nat → Int, ∀ t, D[t]! = G t := ⟨fun t => D[t]!, fun _ => rfl⟩
    have HG := Lib.hid hG
    clear hG HG0 HW0 HWs
    go_wp2_with fail
    go_loopw [9] (fun vi wr1 => ∃ (i2 n1 : Nat), vi = .int .i64 i2 ∧ i ≤ i2 ∧ i2 ≤ j + 1 ∧ Hid (wr1 = putRow encU (Sort.ahead w n1) blk off D) ∧ Hid (scanUp (fun x => !ltInt D[a]! x) D j i2 = scanUp (fun x => !ltInt D[a]! x) D j i)) (fun vi _ => j + 1 - (Go.Proofs.intOf vi).toNat)
    case atStart => exact ⟨i, n, rfl, Nat.le_refl _, hij, HW, Lib.hid rfl⟩
    case round =>
      obtain ⟨i2, n1, rfl, hi2, hij2, HW1, HSU⟩ := hrel
      clear HW
      by_cases hle : i2 ≤ j
      · have hlez : (i2 : Int) ≤ (j : Int) := by omega
        obtain ⟨hcw, hfw⟩ := row_reads HHO.out hs HW1.out
        simp only [HG.out] at hcw
        go_wp2_with fail
        go_big_quiet (first | (go_at_call 64; refine Calls.quiet_of_same (uLess _ _ _)))
        clear hcw hfw
        go_wp2_with fail
        · have ht : (!ltInt (G a) (G i2)) = true := by assumption
          go_wp2
          go_roundw
          case rel => exact ⟨i2 + 1, n1 + nq, by go_num, by omega, by omega, draws_U HW1 nq, Lib.hid (by rw [← HSU.out, scanUp_go (fun x => !ltInt D[a]! x) D j i2 hle (by rw [HG.out, HG.out]; exact ht)])⟩
          case measure => simp [Go.Proofs.intOf]; omega
        · have ht : (!ltInt (G a) (G i2)) = false := by assumption
          have HI2 : Hid (i2 = scanUp (fun x => !ltInt D[a]! x) D j i) := Lib.hid (by rw [← HSU.out, scanUp_end (fun x => !ltInt D[a]! x) D j i2 (.inr (by rw [HG.out, HG.out]; exact ht))])
          have HWu := draws_U HW1 nq
          clear HSU
          generalize wr.drewN nq = wu at HWu ⊢
          go_loopw [10] (fun vj wr2 => ∃ (j2 n2 : Nat), vj = .int .i64 j2 ∧ j2 ≤ j ∧ i2 ≤ j2 + 1 ∧ Hid (wr2 = putRow encU (Sort.ahead w n2) blk off D) ∧ Hid (scanDown (fun x => ltInt D[a]! x) D i2 j2 = scanDown (fun x => ltInt D[a]! x) D i2 j)) (fun vj _ => (Go.Proofs.intOf vj).toNat)
          case atStart => exact ⟨j, _, rfl, Nat.le_refl _, by omega, HWu, Lib.hid rfl⟩
          case round =>
            obtain ⟨j2, n2, rfl, hj2, hij2, HW2, HSD⟩ := hrel
            clear HWu
            by_cases hle : i2 ≤ j2
            · have hlez : (i2 : Int) ≤ (j2 : Int) := by omega
              obtain ⟨hcw, hfw⟩ := row_reads HHO.out hs HW2.out
              simp only [HG.out] at hcw
              go_wp2_with fail
              go_big_quiet (first | (go_at_call 64; refine Calls.quiet_of_same (uLess _ _ _)))
              clear hcw hfw
              go_wp2_with fail
              · have ht : ltInt (G a) (G j2) = true := by assumption
                go_wp2
                go_roundw
                case rel => exact ⟨j2 - 1, n2 + nq, by congr 1; omega, by omega, by omega, draws_U HW2 nq, Lib.hid (by rw [← HSD.out, scanDown_go (fun x => ltInt D[a]! x) D i2 j2 hle (by omega) (by rw [HG.out, HG.out]; exact ht)])⟩
                case measure => simp [Go.Proofs.intOf]; omega
              · have ht : ltInt (G a) (G j2) = false := by assumption
                have HJ2 : Hid (j2 = scanDown (fun x => ltInt D[a]! x) D i2 j) := Lib.hid (by rw [← HSD.out, scanDown_end (fun x => ltInt D[a]! x) D i2 j2 (.inr (by rw [HG.out, HG.out]; exact ht))])
                have HWx := draws_U HW2 nq
                generalize wr.drewN nq = wx at HWx ⊢
                have hq : ¬ j2 < i2 := by omega
                have hlt : i2 < j2 := scans_lt ltInt a i j D (by omega) HI2.out HJ2.out (by omega)
                obtain ⟨hcw, hfw⟩ := row_reads HHO.out hs HWx.out
                simp only [HG.out] at hcw
                clear HHO
                go_region
                go_wp2
                go_roundw
                case rel =>
                  refine ⟨i2 + 1, j2 - 1, _, swp D i2 j2, by go_num, by congr 1; omega, by omega, by omega, by omega, by rw [size_swp]; exact hs, swap_U HWx (by omega) (by omega) (HG.out _) (HG.out _), Lib.hid ?_⟩
                  rw [← HE.out, partEq_go ltInt a i j D HI2.out HJ2.out hq]
                case measure => simp [Go.Proofs.intOf]; omega
            · have hlez : decide ((i2 : Int) ≤ (j2 : Int)) = false := decide_eq_false (by omega)
              go_wp2_with fail
              go_big_quiet (first | (go_at_call 64; refine Calls.quiet_of_same (uLess _ _ _)))
              go_wp2_with fail
              have HJ2 : Hid (j2 = scanDown (fun x => ltInt D[a]! x) D i2 j) := Lib.hid (by rw [← HSD.out, scanDown_end (fun x => ltInt D[a]! x) D i2 j2 (.inl hle)])
              have HWx := draws_U HW2 nq
              generalize wr.drewN nq = wx at HWx ⊢
              have hq : j2 < i2 := by omega
              have hqz : (j2 : Int) < (i2 : Int) := by omega
              go_wp2
              go_ret
              have h := HE.out
              rw [partEq_break ltInt a i j D HI2.out HJ2.out hq] at h
              unfold Sort.partitionEqual
              rw [← h]
              exact ⟨rfl, _, HWx.out⟩
      · have hlez : decide ((i2 : Int) ≤ (j : Int)) = false := decide_eq_false (by omega)
        go_wp2_with fail
        go_big_quiet (first | (go_at_call 64; refine Calls.quiet_of_same (uLess _ _ _)))
        go_wp2_with fail
        have HI2 : Hid (i2 = scanUp (fun x => !ltInt D[a]! x) D j i) := Lib.hid (by rw [← HSU.out, scanUp_end (fun x => !ltInt D[a]! x) D j i2 (.inl hle)])
        have HWu := draws_U HW1 nq
        clear HSU
        generalize wr.drewN nq = wu at HWu ⊢
        go_loopw [10] (fun vj wr2 => ∃ (j2 n2 : Nat), vj = .int .i64 j2 ∧ j2 ≤ j ∧ i2 ≤ j2 + 1 ∧ Hid (wr2 = putRow encU (Sort.ahead w n2) blk off D) ∧ Hid (scanDown (fun x => ltInt D[a]! x) D i2 j2 = scanDown (fun x => ltInt D[a]! x) D i2 j)) (fun vj _ => (Go.Proofs.intOf vj).toNat)
        case atStart => exact ⟨j, _, rfl, Nat.le_refl _, by omega, HWu, Lib.hid rfl⟩
        case round =>
          obtain ⟨j2, n2, rfl, hj2, hij2, HW2, HSD⟩ := hrel
          clear HWu
          by_cases hle : i2 ≤ j2
          · omega
          · have hlez : decide ((i2 : Int) ≤ (j2 : Int)) = false := decide_eq_false (by omega)
            go_wp2_with fail
            go_big_quiet (first | (go_at_call 64; refine Calls.quiet_of_same (uLess _ _ _)))
            go_wp2_with fail
            have HJ2 : Hid (j2 = scanDown (fun x => ltInt D[a]! x) D i2 j) := Lib.hid (by rw [← HSD.out, scanDown_end (fun x => ltInt D[a]! x) D i2 j2 (.inl hle)])
            have HWx := draws_U HW2 nq
            generalize wr.drewN nq = wx at HWx ⊢
            have hq : j2 < i2 := by omega
            have hqz : (j2 : Int) < (i2 : Int) := by omega
            go_wp2
            go_ret
            have h := HE.out
            rw [partEq_break ltInt a i j D HI2.out HJ2.out hq] at h
            unfold Sort.partitionEqual
            rw [← h]
            exact ⟨rfl, _, HWx.out⟩
end Go.Proofs.Ytepjdnokkgmhoaa
