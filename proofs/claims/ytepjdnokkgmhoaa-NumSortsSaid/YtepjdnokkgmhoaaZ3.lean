/- Walks of the library's sort at uint64: heapSort. -/
import Derived.Test.YtepjdnokkgmhoaaZ2
namespace Go.Proofs.Ytepjdnokkgmhoaa
open Go.RowKit Go.Sort Go.Proofs
theorem sift_size (hi F root : Nat) (D : Array Int) : (siftDown ltInt hi F root D).size = D.size := by
  induction hm : hi - root using Nat.strongRecOn generalizing root D with
  | ind m ih =>
    by_cases h : hi ≤ 2 * root + 1
    · rw [sd_end ltInt D h]
    · by_cases h1 : 2 * root + 2 < hi
      · cases h2 : ltInt D[F + (2 * root + 1)]! D[F + (2 * root + 2)]!
        · cases h3 : ltInt D[F + root]! D[F + (2 * root + 1)]!
          · rw [sd_left_stop ltInt D (by omega) (fun _ => h2) h3]
          · rw [sd_left_go ltInt D (by omega) (fun _ => h2) h3, ih (hi - (2 * root + 1)) (by omega) _ _ rfl, size_swp]
        · cases h3 : ltInt D[F + root]! D[F + (2 * root + 2)]!
          · rw [sd_right_stop ltInt D h1 h2 h3]
          · rw [sd_right_go ltInt D h1 h2 h3, ih (hi - (2 * root + 2)) (by omega) _ _ rfl, size_swp]
      · cases h3 : ltInt D[F + root]! D[F + (2 * root + 1)]!
        · rw [sd_left_stop ltInt D (by omega) (fun h => absurd h h1) h3]
        · rw [sd_left_go ltInt D (by omega) (fun h => absurd h h1) h3, ih (hi - (2 * root + 1)) (by omega) _ _ rfl, size_swp]
/-- siftDown on a row laid. -/
theorem uSift' (blk off cap lo hi F m : Nat) (d D : Array Int) (w wr : World) (hH : Holds encU w blk off d) (hs : D.size = d.size) (hw : wr = putRow encU (Sort.ahead w m) blk off D) (hlo : lo ≤ hi) (hb : F + hi ≤ d.size) (hsz : d.size < 4611686018427387904) :
    Calls Try.prog 69 #[.slice (some ⟨blk, off, none⟩) d.size cap, .int .i64 lo, .int .i64 hi, .int .i64 F] wr fun e w' => e = .returned (.tuple #[]) ∧ ∃ n, w' = putRow encU (Sort.ahead w n) blk off (siftDown ltInt hi F lo D) := by
  have hHk : Holds encU wr blk off D := by rw [hw]; exact holds_putRow encU _ blk off d D (holds_ahead encU w m blk off d hH) hs
  refine (uSift blk off d.size cap lo hi F D wr hs hHk hlo (by omega) (by omega)).mono ?_
  rintro e w' ⟨rfl, n, rfl⟩
  refine ⟨rfl, m + n, ?_⟩
  rw [hw, ← putRow_ahead, putRow_putRow _ _ _ _ _ _ (by rw [sift_size]), ahead_ahead]
set_option maxHeartbeats 4000000 in
set_option maxRecDepth 100000 in
theorem uHeap (blk off cap a b : Nat) (d : Array Int) (w : World) (hH : Holds encU w blk off d) (hab : a ≤ b) (hb : b ≤ d.size) (hsz : d.size < 4611686018427387904) :
    Calls Try.prog 59 #[.slice (some ⟨blk, off, none⟩) d.size cap, .int .i64 a, .int .i64 b] w fun e w' => e = .returned (.tuple #[]) ∧ ∃ n, w' = putRow encU (Sort.ahead w n) blk off (heapSort ltInt d a b) := by
  obtain ⟨H, hHH⟩ : ∃ H, H = b - a := ⟨_, rfl⟩
  have e0 : (b : Int) - (a : Int) = (H : Int) := by omega
  have e1 : ((H : Int) - 1).tdiv 2 = (((H - 1) / 2 : Nat) : Int) := by
    rcases Nat.eq_zero_or_pos H with z | z
    · rw [z]; rfl
    · rw [show (H : Int) - 1 = ((H - 1 : Nat) : Int) by omega]; rfl
  obtain ⟨M, hM⟩ : ∃ M, M = (H - 1) / 2 := ⟨_, rfl⟩
  rw [← hM] at e1
  have hMH : M ≤ H := by omega
  have HHS : Hid (heapSort ltInt d a b = heapPop ltInt a H (heapBuild ltInt H a (M + 1) d)) := Lib.hid (by rw [hM, hHH]; rfl)
  have HQ := Lib.hid (fun lo hi m D wr h1 h2 h3 h4 => uSift' blk off cap lo hi a m d D w wr hH h1 h2 h3 h4 hsz)
  have hHb : a + H ≤ d.size := by omega
  have HHO := Lib.hid hH
  clear hM hHH
  go_enter Try.func59, Try.ntmps59
  go_wp2_with fail
  clear hH
  go_loopg [9] (M + 1) (fun gh x wr => ∃ (k : Nat) (D : Array Int) (n : Nat), x = .int .i64 ((k : Int) - 1) ∧ k ≤ M + 1 ∧ k ≤ gh ∧ D.size = d.size ∧ Hid (wr = putRow encU (Sort.ahead w n) blk off D) ∧ Hid (heapBuild ltInt H a k D = heapBuild ltInt H a (M + 1) d))
  case atStart => exact ⟨M + 1, d, 0, by go_num, Nat.le_refl _, Nat.le_refl _, rfl, Lib.hid (putRow_self _ _ _ _ _ HHO.out).symm, Lib.hid rfl⟩
  case round =>
    obtain ⟨k, D, n, rfl, hk, hg, hs, HW, HE⟩ := hrel
    cases k with
    | succ k =>
      have i1 : ((k + 1 : Nat) : Int) - 1 = (k : Int) := by omega
      rw [i1]
      have i2 : (0 : Int) ≤ (k : Int) := by omega
      have HC := Lib.hid (HQ.out k H n D wr hs HW.out (by omega) hHb)
      go_wp2_with (first | (go_at_call 69; fail))
      go_at_call 69
      refine (HC.out).mono ?_
      rintro e w2 ⟨rfl, n2, h2⟩
      have HW2 := Lib.hid h2
      clear h2
      go_wp2
      go_roundg (gk - 1)
      case measure => omega
      case rel => exact ⟨k, siftDown ltInt H a k D, n2, by go_num, by omega, by omega, by rw [sift_size]; exact hs, HW2, HE⟩
    | zero =>
      have i1 : ((0 : Nat) : Int) - 1 = -1 := rfl
      rw [i1]
      go_wp2_with fail
      have HE2 : Hid (D = heapBuild ltInt H a (M + 1) d) := HE
      go_loopg [10] H (fun gh x wr => ∃ (k : Nat) (E : Array Int) (n : Nat), x = .int .i64 ((k : Int) - 1) ∧ k ≤ H ∧ k ≤ gh ∧ E.size = d.size ∧ Hid (wr = putRow encU (Sort.ahead w n) blk off E) ∧ Hid (heapPop ltInt a k E = heapPop ltInt a H D))
      case atStart => exact ⟨H, D, n, rfl, Nat.le_refl _, Nat.le_refl _, hs, HW, Lib.hid rfl⟩
      case round =>
        obtain ⟨k, E, n2, rfl, hk2, hg2, hs2, HW2, HP⟩ := hrel
        cases k with
        | succ k =>
          have i3 : ((k + 1 : Nat) : Int) - 1 = (k : Int) := by omega
          rw [i3]
          have i2 : (0 : Int) ≤ (k : Int) := by omega
          obtain ⟨G, hG⟩ : ∃ G : Nat → Int, ∀ t, E[t]! = G t := ⟨fun t => E[t]!, fun _ => rfl⟩
          obtain ⟨hcw, hfw⟩ := row_reads HHO.out hs2 HW2.out
          simp only [hG] at hcw
          have HG := Lib.hid hG
          clear hG
          rcases Nat.eq_zero_or_pos k with hk0 | hk0
          · subst hk0
            go_wp2_with fail
            go_region
            have HW3 := Lib.hid (swap_world encU (w := w) (n := n2) (blk := blk) (off := off) (dk := E) (i := a) (j := a) (by omega) (by omega) HW2.out (by rw [HG.out]) (by rw [HG.out]))
            have HC := Lib.hid (HQ.out 0 0 (n2 + 1) (swp E a a) _ (by rw [size_swp]; exact hs2) HW3.out (Nat.zero_le _) (by omega))
            clear hcw hfw
            go_wp2_with (first | (go_at_call 69; fail))
            go_at_call 69
            refine (HC.out).mono ?_
            rintro e w2 ⟨rfl, n3, h2⟩
            have HW4 := Lib.hid h2
            clear h2
            go_wp2
            go_roundg (gk - 1)
            case measure => omega
            case rel => exact ⟨0, siftDown ltInt 0 a 0 (swp E a a), n3, by go_num, by omega, by omega, by rw [sift_size, size_swp]; exact hs2, HW4, HP⟩
          · skip
            go_wp2_with fail
            go_region
            have HW3 := Lib.hid (swap_world encU (w := w) (n := n2) (blk := blk) (off := off) (dk := E) (i := a) (j := a + k) (by omega) (by omega) HW2.out (by rw [HG.out]) (by rw [HG.out]))
            have HC := Lib.hid (HQ.out 0 k (n2 + 1) (swp E a (a + k)) _ (by rw [size_swp]; exact hs2) HW3.out (Nat.zero_le _) (by omega))
            clear hcw hfw
            go_wp2_with (first | (go_at_call 69; fail))
            go_at_call 69
            refine (HC.out).mono ?_
            rintro e w2 ⟨rfl, n3, h2⟩
            have HW4 := Lib.hid h2
            clear h2
            go_wp2
            go_roundg (gk - 1)
            case measure => omega
            case rel => exact ⟨k, siftDown ltInt k a 0 (swp E a (a + k)), n3, by go_num, by omega, by omega, by rw [sift_size, size_swp]; exact hs2, HW4, HP⟩
        | zero =>
          have i3 : ((0 : Nat) : Int) - 1 = -1 := rfl
          rw [i3]
          go_wp2
          go_end0
          refine ⟨rfl, n2, ?_⟩
          rw [HHS.out, ← HE2.out, ← HP.out]
          exact HW2.out
end Go.Proofs.Ytepjdnokkgmhoaa
