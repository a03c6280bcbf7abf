/- Walks of the library's sort at uint64: choosePivot's counter. -/
import Derived.Test.YtepjdnokkgmhoaaZ4
import Derived.Sort.Walk11
namespace Go.Proofs.Ytepjdnokkgmhoaa
open Go.RowKit Go.Sort Go.Proofs
/-- The world with choosePivot's counter made: N draws, S exchanges told. -/
def WcU (w : World) (N S : Nat) : World := putRow encN (Sort.ahead (w.alloc (.cells #[.int .i64 0] 3)) N) w.heap.size 0 (one S)
section
variable {blk off cap : Nat} {d : Array Int} {w : World}
theorem wc_one : Holds encN (w.alloc (.cells #[.int .i64 0] 3)) w.heap.size 0 (one 0) := fun j hj => by
  obtain rfl : j = 0 := by simpa using hj
  simp
theorem wc_start : w.alloc (.cells #[.int .i64 0] 3) = WcU w 0 0 := (putRow_self _ _ _ _ _ wc_one).symm
theorem wc_cell (N S : Nat) : (WcU w N S).cell? ⟨w.heap.size, 0, none⟩ = some (.int .i64 (S : Int)) := (one_cell (holds_one (n := N) (t := S) wc_one)).1
theorem wc_grow (N S : Nat) : ∃ os, WcU w N S = grow (Sort.ahead w N) os := counter_grow w N S
theorem wc_row (hH : Holds encU w blk off d) (hblk : blk < w.heap.size) : Holds encU (w.alloc (.cells #[.int .i64 0] 3)) blk off d := by
  rw [alloc_eq_grow]; exact holds_grow _ _ _ _ _ _ hblk hH
theorem wc_adj (hH : Holds encU w blk off d) (hblk : blk < w.heap.size) (hsz : d.size < 4611686018427387904) (x s N : Nat) (h1 : 1 ≤ x) (h2 : x + 1 < d.size) (hs : s + 3 < 4611686018427387904) :
    Calls Try.prog 72 #[.slice (some ⟨blk, off, none⟩) d.size cap, .int .i64 (x : Int), .pointer (some ⟨w.heap.size, 0, none⟩)] (WcU w N s) fun e w' =>
      e = .returned (.int .i64 ((medianAdjacent ltInt d x s).1 : Int)) ∧ ∃ N', w' = WcU w N' (medianAdjacent ltInt d x s).2 := by
  have hne : w.heap.size ≠ blk := by omega
  refine (uMedianAdj d blk off cap x w.heap.size 0 s _ (asideU (wc_row hH hblk) hne) h1 h2 hsz hne (holds_one wc_one) hs).mono ?_
  rintro e w' ⟨he, n, hw⟩
  exact ⟨he, N + n, by rw [hw]; unfold WcU; rw [one_one]⟩
theorem wc_med (hH : Holds encU w blk off d) (hblk : blk < w.heap.size) (x y z s N : Nat) (h1 : x < d.size) (h2 : y < d.size) (h3 : z < d.size) (hs : s + 3 < 4611686018427387904) :
    Calls Try.prog 73 #[.slice (some ⟨blk, off, none⟩) d.size cap, .int .i64 (x : Int), .int .i64 (y : Int), .int .i64 (z : Int), .pointer (some ⟨w.heap.size, 0, none⟩)] (WcU w N s) fun e w' =>
      e = .returned (.int .i64 ((median ltInt d x y z s).1 : Int)) ∧ ∃ N', w' = WcU w N' (median ltInt d x y z s).2 := by
  have hne : w.heap.size ≠ blk := by omega
  refine (uMedian d blk off cap x y z w.heap.size 0 s _ (asideU (wc_row hH hblk) hne) h1 h2 h3 hne (holds_one wc_one) hs).mono ?_
  rintro e w' ⟨he, n, hw⟩
  exact ⟨he, N + n, by rw [hw]; unfold WcU; rw [one_one]⟩
end
set_option maxRecDepth 100000 in
set_option maxHeartbeats 4000000 in
theorem uPivot (blk off cap a b : Nat) (d : Array Int) (w : World) (hH : Holds encU w blk off d) (hblk : blk < w.heap.size) (hab : a < b) (hb : b ≤ d.size) (hsz : d.size < 4611686018427387904) :
    Calls Try.prog 61 #[.slice (some ⟨blk, off, none⟩) d.size cap, .int .i64 a, .int .i64 b] w fun e w' =>
      e = .returned (.tuple #[.int .i64 (choosePivot ltInt d a b).1, .int .i64 (hintCode (choosePivot ltInt d a b).2)]) ∧ ∃ n os, w' = grow (Sort.ahead w n) os := by
  have hW0 := wc_start (w := w)
  have cS := fun N S => wc_cell (w := w) N S
  have MA := fun x s N h1 h2 h3 => wc_adj (cap := cap) hH hblk hsz x s N h1 h2 h3
  have MD := fun x y z s N h1 h2 h3 h4 => wc_med (cap := cap) hH hblk x y z s N h1 h2 h3 h4
  clear hH
  rw [choosePivot_eq]
  obtain ⟨I, hI⟩ : ∃ I : Nat, I = a + (b - a) / 4 * 1 := ⟨_, rfl⟩
  obtain ⟨J, hJ⟩ : ∃ J : Nat, J = a + (b - a) / 4 * 2 := ⟨_, rfl⟩
  obtain ⟨K, hK⟩ : ∃ K : Nat, K = a + (b - a) / 4 * 3 := ⟨_, rfl⟩
  have eI : ((a : Int) + ((b : Int) - (a : Int)) / 4) = (I : Int) := by omega
  have eJ : ((a : Int) + ((b : Int) - (a : Int)) / 4 * 2) = (J : Int) := by omega
  have eK : ((a : Int) + ((b : Int) - (a : Int)) / 4 * 3) = (K : Int) := by omega
  by_cases h8 : b - a ≥ 8
  · by_cases h50 : b - a ≥ 50
    · obtain ⟨i1, s1, h1⟩ : ∃ i1 s1, medianAdjacent ltInt d I 0 = (i1, s1) := ⟨_, _, rfl⟩
      obtain ⟨j1, s2, h2⟩ : ∃ j1 s2, medianAdjacent ltInt d J s1 = (j1, s2) := ⟨_, _, rfl⟩
      obtain ⟨k1, s3, h3⟩ : ∃ k1 s3, medianAdjacent ltInt d K s2 = (k1, s3) := ⟨_, _, rfl⟩
      obtain ⟨p, s, h4⟩ : ∃ p s, median ltInt d i1 j1 k1 s3 = (p, s) := ⟨_, _, rfl⟩
      have hraw : rawPivot ltInt d a b = (p, s) := by simp only [rawPivot, if_pos h8, if_pos h50, ← hI, ← hJ, ← hK, h1, h2, h3, h4]
      have m1 := medianAdjacent_mem ltInt d I 0
      have m2 := medianAdjacent_mem ltInt d J s1
      have m3 := medianAdjacent_mem ltInt d K s2
      have n1 := medianAdjacent_count ltInt d I 0
      have n2 := medianAdjacent_count ltInt d J s1
      have n3 := medianAdjacent_count ltInt d K s2
      rw [h1] at m1 n1; rw [h2] at m2 n2; rw [h3] at m3 n3
      simp only [] at m1 m2 m3 n1 n2 n3
      have c1 := MA I 0 0 (by omega) (by omega) (by omega)
      have c2 := fun N => MA J s1 N (by omega) (by omega) (by omega)
      have c3 := fun N => MA K s2 N (by omega) (by omega) (by omega)
      have c4 := fun N => MD i1 j1 k1 s3 N (by omega) (by omega) (by omega) (by omega)
      rw [h1] at c1
      simp only [h2] at c2
      simp only [h3] at c3
      simp only [h4] at c4
      rw [hraw]
      have HT : Hid (∀ c : Int, (s = 0 → c = 1) → (s = 12 → c = 2) → (s ≠ 0 → s ≠ 12 → c = 0) → hintCode (hintOf s) = c) := Lib.hid (fun c h0 h1 h2 => by
        unfold hintOf
        by_cases q : s = 0
        · rw [if_pos q, h0 q]; rfl
        · rw [if_neg q]
          by_cases q2 : s = 12
          · rw [if_pos q2, h1 q2]; rfl
          · rw [if_neg q2, h2 q q2]; rfl)
      clear hraw
      clear h1 h2 h3 h4 MA MD hI hJ hK m1 m2 m3
      go_enter Try.func61, Try.ntmps61
      go_wp2_with (first | (go_at_call 72; fail))
      go_at_call 72
      refine c1.mono ?_
      rintro e w1 ⟨rfl, N1, rfl⟩
      go_wp2_with (first | (go_at_call 72; fail))
      go_at_call 72
      refine (c2 _).mono ?_
      rintro e w1 ⟨rfl, N2, rfl⟩
      go_wp2_with (first | (go_at_call 72; fail))
      go_at_call 72
      refine (c3 _).mono ?_
      rintro e w1 ⟨rfl, N3, rfl⟩
      go_wp2_with (first | (go_at_call 73; fail))
      go_at_call 73
      refine (c4 _).mono ?_
      rintro e w1 ⟨rfl, N4, rfl⟩
      go_wp2_with fail
      all_goals
        go_ret2
        refine ⟨?_, _, wc_grow _ _⟩
        first
          | (have e0 : (s : Int) = 0 := of_beq_int (by assumption)
             simp only [HT.out 1 (fun _ => rfl) (fun h => by omega) (fun h => by omega)]; rfl)
          | (have e1 : (s : Int) = 12 := of_beq_int (by assumption)
             simp only [HT.out 2 (fun h => by omega) (fun _ => rfl) (fun _ h => by omega)]; rfl)
          | (have e0 : (s : Int) ≠ 0 := of_bne_int (by assumption)
             have e1 : (s : Int) ≠ 12 := of_bne_int (by assumption)
             simp only [HT.out 0 (fun h => by omega) (fun h => by omega) (fun _ _ => rfl)]; rfl)
    · obtain ⟨p, s, h4⟩ : ∃ p s, median ltInt d I J K 0 = (p, s) := ⟨_, _, rfl⟩
      have hraw : rawPivot ltInt d a b = (p, s) := by simp only [rawPivot, if_pos h8, if_neg h50, ← hI, ← hJ, ← hK, h4]
      have c4 := MD I J K 0 0 (by omega) (by omega) (by omega) (by omega)
      rw [h4] at c4
      rw [hraw]
      have HT : Hid (∀ c : Int, (s = 0 → c = 1) → (s = 12 → c = 2) → (s ≠ 0 → s ≠ 12 → c = 0) → hintCode (hintOf s) = c) := Lib.hid (fun c h0 h1 h2 => by
        unfold hintOf
        by_cases q : s = 0
        · rw [if_pos q, h0 q]; rfl
        · rw [if_neg q]
          by_cases q2 : s = 12
          · rw [if_pos q2, h1 q2]; rfl
          · rw [if_neg q2, h2 q q2]; rfl)
      clear hraw
      clear h4 MA MD hI hJ hK
      go_enter Try.func61, Try.ntmps61
      go_wp2_with (first | (go_at_call 73; fail))
      go_at_call 73
      refine c4.mono ?_
      rintro e w1 ⟨rfl, N4, rfl⟩
      go_wp2_with fail
      all_goals
        go_ret2
        refine ⟨?_, _, wc_grow _ _⟩
        first
          | (have e0 : (s : Int) = 0 := of_beq_int (by assumption)
             simp only [HT.out 1 (fun _ => rfl) (fun h => by omega) (fun h => by omega)]; rfl)
          | (have e1 : (s : Int) = 12 := of_beq_int (by assumption)
             simp only [HT.out 2 (fun h => by omega) (fun _ => rfl) (fun _ h => by omega)]; rfl)
          | (have e0 : (s : Int) ≠ 0 := of_bne_int (by assumption)
             have e1 : (s : Int) ≠ 12 := of_bne_int (by assumption)
             simp only [HT.out 0 (fun h => by omega) (fun h => by omega) (fun _ _ => rfl)]; rfl)
  · have hraw : rawPivot ltInt d a b = (J, 0) := by simp only [rawPivot, if_neg h8, ← hJ]
    rw [hraw]
    clear hraw MA MD hI hJ hK
    go_enter Try.func61, Try.ntmps61
    go_wp2_with fail
    all_goals
      go_ret2
      exact ⟨rfl, _, wc_grow _ _⟩
end Go.Proofs.Ytepjdnokkgmhoaa
