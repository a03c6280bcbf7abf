/- Walks of the library's sort at uint64: order2, median, medianAdjacent. -/
import Derived.Test.YtepjdnokkgmhoaaZ1
import Derived.Sort.WalkD1
namespace Go.Proofs.Ytepjdnokkgmhoaa
open Go.RowKit Go.Sort Go.Proofs
abbrev encN : Int → Value := Value.int .i64
/-- The row is as it was where the counter, in another block, has turned. -/
theorem asideU {w : World} {blk off sb so n t : Nat} {d : Array Int} (h : Holds encU w blk off d) (hne : sb ≠ blk) : Holds encU (putRow encN (Sort.ahead w n) sb so (one t)) blk off d := fun j hj =>
  ⟨by rw [cell?_putRow_other _ _ _ _ _ _ (Or.inl (Ne.symm hne))]; exact (h j hj).1, by rw [frozen?_putRow]; exact (h j hj).2⟩
set_option maxHeartbeats 1000000 in
theorem uOrder2 (d : Array Int) (blk off cap a b sb so s : Nat) (w : World) (hH : Holds encU w blk off d) (ha : a < d.size) (hb : b < d.size) (hS : Holds encN w sb so (one s)) (hs : s < 4611686018427387904) :
    Calls Try.prog 75 #[.slice (some ⟨blk, off, none⟩) d.size cap, .int .i64 a, .int .i64 b, .pointer (some ⟨sb, so, none⟩)] w fun e w' =>
      e = .returned (.tuple #[.int .i64 (order2 ltInt d a b s).1, .int .i64 (order2 ltInt d a b s).2.1]) ∧ ∃ n, w' = putRow encN (Sort.ahead w n) sb so (one (order2 ltInt d a b s).2.2) := by
  obtain ⟨G, hG⟩ : ∃ G : Nat → Int, ∀ t, d[t]! = G t := ⟨fun t => d[t]!, fun _ => rfl⟩
  have ca := (hH a ha).1
  have cb := (hH b hb).1
  rw [hG] at ca cb
  obtain ⟨cs, fs⟩ := one_cell hS
  have HS := Lib.hid hS
  have HO : Hid (order2 ltInt d a b s = if ltInt (G b) (G a) then (b, a, s + 1) else (a, b, s)) := Lib.hid (by unfold order2; rw [hG, hG])
  generalize order2 ltInt d a b s = R at HO ⊢
  clear hG hH hS
  cases hl : ltInt (G b) (G a)
  · rw [hl] at HO
    have HL : Hid (∀ W, Calls Try.prog 64 #[.int .u64 (G b), .int .u64 (G a)] W fun e w' => e = .returned (.bool false) ∧ w' = W) := Lib.hid (fun W => by rw [← hl]; exact uLess _ _ W)
    clear hl
    go_enter Try.func75, Try.ntmps75
    go_wp2_with fail
    go_quiet (first | (go_at_call 64; refine Calls.quiet_of_same (HL.out _)))
    go_wp2
    go_ret2
    rw [HO.out]
    refine ⟨rfl, nq, ?_⟩
    rw [putRow_ahead, if_neg (by decide), putRow_self _ _ _ _ _ HS.out]
    rfl
  · rw [hl] at HO
    have HL : Hid (∀ W, Calls Try.prog 64 #[.int .u64 (G b), .int .u64 (G a)] W fun e w' => e = .returned (.bool true) ∧ w' = W) := Lib.hid (fun W => by rw [← hl]; exact uLess _ _ W)
    clear hl
    go_enter Try.func75, Try.ntmps75
    go_wp2_with fail
    go_quiet (first | (go_at_call 64; refine Calls.quiet_of_same (HL.out _)))
    go_wp2
    go_ret2
    rw [HO.out]
    refine ⟨rfl, nq, ?_⟩
    rw [if_pos trivial, putRow_ahead, ← one_set HS.out (s + 1)]
    rfl
set_option maxHeartbeats 2000000 in
set_option maxRecDepth 100000 in
theorem uMedian (d : Array Int) (blk off cap a b c sb so s : Nat) (w : World) (hH : Holds encU w blk off d) (ha : a < d.size) (hb : b < d.size) (hc : c < d.size) (hne : sb ≠ blk) (hS : Holds encN w sb so (one s)) (hs : s + 3 < 4611686018427387904) :
    Calls Try.prog 73 #[.slice (some ⟨blk, off, none⟩) d.size cap, .int .i64 a, .int .i64 b, .int .i64 c, .pointer (some ⟨sb, so, none⟩)] w fun e w' =>
      e = .returned (.int .i64 (median ltInt d a b c s).1) ∧ ∃ n, w' = putRow encN (Sort.ahead w n) sb so (one (median ltInt d a b c s).2) := by
  have l1 := order2_lt d s ha hb
  have s1 := order2_swaps d a b s
  have C1 := Lib.hid (uOrder2 d blk off cap a b sb so s w hH ha hb hS (by omega))
  have HM : Hid (median ltInt d a b c s = (let r1 := order2 ltInt d a b s; let r2 := order2 ltInt d r1.2.1 c r1.2.2; let r3 := order2 ltInt d r1.1 r2.1 r2.2.2; (r3.2.1, r3.2.2))) := Lib.hid rfl
  generalize order2 ltInt d a b s = r1 at l1 s1 C1 HM
  obtain ⟨x1, y1, z1⟩ := r1
  simp only at l1 s1 C1 HM
  have l2 := order2_lt d z1 l1.2 hc
  have s2 := order2_swaps d y1 c z1
  have C2 := Lib.hid (fun n => uOrder2 d blk off cap y1 c sb so z1 (putRow encN (Sort.ahead w n) sb so (one z1)) (asideU hH hne) l1.2 hc (holds_one hS) (by omega))
  generalize order2 ltInt d y1 c z1 = r2 at l2 s2 C2 HM
  obtain ⟨x2, y2, z2⟩ := r2
  simp only at l2 s2 C2 HM
  have C3 := Lib.hid (fun n => uOrder2 d blk off cap x1 x2 sb so z2 (putRow encN (Sort.ahead w n) sb so (one z2)) (asideU hH hne) l1.1 l2.1 (holds_one hS) (by omega))
  generalize order2 ltInt d x1 x2 z2 = r3 at C3 HM
  obtain ⟨x3, y3, z3⟩ := r3
  simp only at C3 HM
  rw [HM.out]
  clear hH hS l1 l2 s1 s2 HM
  go_enter Try.func73, Try.ntmps73
  go_wp2_with (first | (go_at_call 75; fail))
  go_at_call 75
  refine (C1.out).mono ?_
  rintro e w1 ⟨rfl, n1, rfl⟩
  go_wp2_with (first | (go_at_call 75; fail))
  go_at_call 75
  refine (C2.out _).mono ?_
  rintro e w2 ⟨rfl, n2, rfl⟩
  rw [one_one]
  go_wp2_with (first | (go_at_call 75; fail))
  go_at_call 75
  refine (C3.out _).mono ?_
  rintro e w3 ⟨rfl, n3, rfl⟩
  rw [one_one]
  go_wp2
  go_ret
  exact ⟨rfl, _, rfl⟩
set_option maxHeartbeats 2000000 in
theorem uMedianAdj (d : Array Int) (blk off cap a sb so s : Nat) (w : World) (hH : Holds encU w blk off d) (ha0 : 1 ≤ a) (ha : a + 1 < d.size) (hsz : d.size < 4611686018427387904) (hne : sb ≠ blk) (hS : Holds encN w sb so (one s)) (hs : s + 3 < 4611686018427387904) :
    Calls Try.prog 72 #[.slice (some ⟨blk, off, none⟩) d.size cap, .int .i64 a, .pointer (some ⟨sb, so, none⟩)] w fun e w' =>
      e = .returned (.int .i64 (medianAdjacent ltInt d a s).1) ∧ ∃ n, w' = putRow encN (Sort.ahead w n) sb so (one (medianAdjacent ltInt d a s).2) := by
  have e1 : (a : Int) - 1 = ((a - 1 : Nat) : Int) := by omega
  have e2 : (a : Int) + 1 = ((a + 1 : Nat) : Int) := by omega
  have C := Lib.hid (uMedian d blk off cap (a - 1) a (a + 1) sb so s w hH (by omega) (by omega) ha hne hS hs)
  have HM : Hid (medianAdjacent ltInt d a s = median ltInt d (a - 1) a (a + 1) s) := Lib.hid rfl
  rw [HM.out]
  generalize median ltInt d (a - 1) a (a + 1) s = r at C
  rw [← e1, ← e2] at C
  clear hH hS e1 e2
  go_enter Try.func72, Try.ntmps72
  go_wp2_with (first | (go_at_call 73; fail))
  go_at_call 73
  refine (C.out).mono ?_
  rintro e w1 ⟨rfl, n1, rfl⟩
  go_wp2
  go_ret
  exact ⟨rfl, _, rfl⟩
end Go.Proofs.Ytepjdnokkgmhoaa
