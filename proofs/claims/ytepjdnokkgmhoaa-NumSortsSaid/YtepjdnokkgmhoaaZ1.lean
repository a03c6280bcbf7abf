/- Walks of the library's sort at uint64: Less, insertionSort. The plain functions and the rows' laws are the library's (Derived.Sort). -/
import Derived.Test.YtepjdnokkgmhoaaProg
import Derived.Sort.WalkA
import Derived.Lib.Hide
namespace Go.Proofs.Ytepjdnokkgmhoaa
open Go.RowKit Go.Sort Go.Proofs
abbrev encU : Int → Value := Value.int .u64
theorem uIsNaN (x : Int) (w : World) : Calls Try.prog 74 #[.int .u64 x] w fun e w' => e = .returned (.bool false) ∧ w' = w := by
  go_enter Try.func74, Try.ntmps74
  go_wp2
  go_ret
  exact ⟨by simp, rfl⟩
theorem uLess (x y : Int) (w : World) : Calls Try.prog 64 #[.int .u64 x, .int .u64 y] w fun e w' => e = .returned (.bool (Sort.ltInt x y)) ∧ w' = w := by
  go_enter Try.func64, Try.ntmps64
  go_wp2_with (go_at_call 74; refine (uIsNaN _ _).mono ?_; rintro e w' ⟨rfl, rfl⟩)
  go_ret
  exact ⟨rfl, rfl⟩
/-- What a world with a row laid reads: its two families, the row's contents under a name. -/
theorem row_reads {blk off m : Nat} {d dj : Array Int} {w wr : World} (hH : Holds encU w blk off d) (hs : dj.size = d.size) (hw : wr = putRow encU (Sort.ahead w m) blk off dj) :
    (∀ t, t < d.size → wr.cell? ⟨blk, off + t, none⟩ = some (.int .u64 dj[t]!)) ∧ ∀ t, t < d.size → wr.frozen? ⟨blk, off + t, none⟩ = false :=
  ⟨fun t ht => by rw [hw]; exact cell?_putRow _ _ _ _ d dj (holds_ahead _ _ _ _ _ _ hH) hs t (by omega),
   fun t ht => by rw [hw, frozen?_putRow]; exact ((holds_ahead _ _ m _ _ _ hH) t ht).2⟩
set_option maxHeartbeats 2000000 in
theorem uInsertion (blk off cap a b : Nat) (d : Array Int) (w : World) (hH : Holds encU w blk off d) (hab : a ≤ b) (hb : b ≤ d.size) (hsz : d.size < 4611686018427387904) :
    Calls Try.prog 58 #[.slice (some ⟨blk, off, none⟩) d.size cap, .int .i64 a, .int .i64 b] w fun e w' =>
      e = .returned (.tuple #[]) ∧ ∃ n, w' = putRow encU (Sort.ahead w n) blk off (Sort.insertionSort ltInt d a b) := by
  go_enter Try.func58, Try.ntmps58
  go_wp2
  go_loopw [6] (fun vi wr => ∃ (i n : Nat) (D : Array Int), vi = .int .i64 i ∧ a < i ∧ i ≤ b + 1 ∧ D.size = d.size ∧ Hid (wr = putRow encU (Sort.ahead w n) blk off D) ∧
      Hid (insOuter ltInt a b i D = insOuter ltInt a b (a + 1) d)) (fun vi _ => b + 1 - (Go.Proofs.intOf vi).toNat)
  case atStart => exact ⟨a + 1, 0, d, by go_num, by omega, by omega, rfl, Lib.hid (putRow_self _ _ _ _ _ hH).symm, Lib.hid rfl⟩
  case round =>
    obtain ⟨i, n, D, rfl, hai, hib, hsk, HW1, HO⟩ := hrel
    by_cases q : i < b
    · go_wp2_with fail
      go_loopw [7] (fun vj wr2 => ∃ (j m : Nat) (E : Array Int), vj = .int .i64 j ∧ a ≤ j ∧ j ≤ i ∧ E.size = d.size ∧ Hid (wr2 = putRow encU (Sort.ahead w m) blk off E) ∧
          Hid (insInner ltInt a j E = insInner ltInt a i D)) (fun vj _ => (Go.Proofs.intOf vj).toNat)
      case atStart => exact ⟨i, n, D, rfl, by omega, Nat.le_refl _, hsk, HW1, Lib.hid rfl⟩
      case round =>
        obtain ⟨j, m, E, rfl, haj, hji, hsj, HW, HI⟩ := hrel
        obtain ⟨G, hG⟩ : ∃ G : Nat → Int, ∀ t, E[t]! = G t := ⟨fun t => E[t]!, fun _ => rfl⟩
        obtain ⟨hcw, hfw⟩ := row_reads hH hsj HW.out
        simp only [hG] at hcw
        have HG := Lib.hid hG
        have HQ := Lib.hid q
        have OUT : Hid ((j ≤ a ∨ ltInt (G j) (G (j - 1)) = false) → ∀ k, Hid (wr.drewN k = putRow encU (Sort.ahead w (m + k)) blk off E) ∧ insOuter ltInt a b (i + 1) E = insOuter ltInt a b (a + 1) d) := Lib.hid fun hs k =>
          ⟨Lib.hid (by rw [HW.out]; exact putRow_drewN _ _ _ _ _ _ _), by
            rw [← HO.out, insOuter_go _ _ _ _ _ HQ.out, ← HI.out, insInner_stop _ _ _ _ (by rw [HG.out, HG.out]; exact hs)]⟩
        clear hG hH
        by_cases hja : a < j
        · go_wp2_with fail
          go_quiet (first | (go_at_call 64; refine Calls.quiet_of_same (uLess _ _ _)))
          go_wp2
          · have hl : ltInt (G j) (G (j - 1)) = true := by assumption
            go_region
            all_goals go_wp2
            go_roundw
            case rel =>
              refine ⟨j - 1, m + (nq + 1), swp E j (j - 1), by congr 1; omega, by omega, by omega, by rw [size_swp]; exact hsj, Lib.hid ?_, Lib.hid ?_⟩
              · rw [HW.out, ← HG.out, ← HG.out]
                exact swap_worldA _ w m (nq + 1) blk off E j (j - 1) (by omega) (by omega)
              · rw [← HI.out, insInner_go ltInt a j E hja (by rw [HG.out, HG.out]; exact hl)]
            case measure => simp [Go.Proofs.intOf]; omega
          · have hl : ltInt (G j) (G (j - 1)) = false := by assumption
            go_roundw
            case rel => exact ⟨i + 1, m + nq, E, by go_num, by omega, by have := HQ.out; omega, hsj, (OUT.out (.inr hl) nq).1, Lib.hid (OUT.out (.inr hl) nq).2⟩
            case measure => simp [Go.Proofs.intOf]; have := HQ.out; omega
        · go_wp2_with fail
          go_quiet (first | (go_at_call 64; refine Calls.quiet_of_same (uLess _ _ _)))
          go_wp2
          go_roundw
          case rel => exact ⟨i + 1, m + nq, E, by go_num, by omega, by have := HQ.out; omega, hsj, (OUT.out (.inl (by omega)) nq).1, Lib.hid (OUT.out (.inl (by omega)) nq).2⟩
          case measure => simp [Go.Proofs.intOf]; have := HQ.out; omega
    · go_wp2
      go_end0
      exact ⟨rfl, n, by unfold Sort.insertionSort; rw [← HO.out, insOuter_stop _ _ _ _ _ q]; exact HW1.out⟩
end Go.Proofs.Ytepjdnokkgmhoaa
