/- Walks: the iterator over a table's pairs. -/
import Derived.Test.YtdomglkcfecnnaaGreatH4
import Derived.Stop.RegionWithIn
import Derived.Sort.CutIn
namespace Go.Proofs.YtdomglkcfecnnaaGreat
open Go.RowKit Go.Shelf
attribute [local go_sem] Oper.semAt_some
/-- What a round keeps: the table, and the iterator's own box. -/
structure KeepP (p q : Nat) (A B : World) : Prop where
  size : A.heap.size ≤ B.heap.size
  bp : B.heap[p]? = A.heap[p]?
  bq : B.heap[q]? = A.heap[q]?
theorem KeepP.refl (p q : Nat) (A : World) : KeepP p q A A := ⟨Nat.le_refl _, rfl, rfl⟩
theorem KeepP.trans {p q : Nat} {A B C : World} (h : KeepP p q A B) (k : KeepP p q B C) : KeepP p q A C := ⟨Nat.le_trans h.size k.size, k.bp.trans h.bp, k.bq.trans h.bq⟩
theorem KeepP.drew {p q : Nat} {A B : World} (h : KeepP p q A B) : KeepP p q A B.drew := ⟨h.size, h.bp, h.bq⟩
theorem keepP_b {p q : Nat} {w : World} (h1 : p < w.heap.size) (h2 : q < w.heap.size) : ∀ (W : World) (l : Nat) (o o' : Obj), w.heap.size ≤ l → W.heap[l]? = some o → o.isCells = false → o.isWalk = false → KeepP p q W (W.putObj l o') := fun W l o o' hl _ _ _ =>
  ⟨by simp, World.putObj_heap_other (by omega), World.putObj_heap_other (by omega)⟩
set_option maxRecDepth 100000 in
set_option maxHeartbeats 4000000 in
theorem pairs_in (l p q : Nat) (L : List Int) (hL : L.length ≤ 1000) (W : World) (hp : W.heap[p]? = some (.cells #[.slice (some ⟨q, 0, none⟩) L.length L.length] 238 (0, 0))) (hq : I32At W q L)
    (J Jx : List Nat → World → Prop) (hA : AbidesFrom W.heap.size J)
    (hY : ∀ k W1, J (List.range k) W1 → 2 * k + 1 < L.length → YieldAt Fence.wide 4 Tryz.prog l #[.int .i32 (L.getD (2 * k) 0), .int .i32 (L.getD (2 * k + 1) 0)] W1 fun e W' =>
      (e = .returned (.bool true) ∧ J (List.range (k + 1)) W' ∧ KeepP p q W1 W') ∨ (e = .returned (.bool false) ∧ Jx (List.range (k + 1)) W'))
    (hJ0 : J [] W) :
    CallsIn Fence.wide 5 Tryz.prog 163 #[.func (.yield l) #[] #[], .pointer (some ⟨p, 0, none⟩)] W fun e W' => (∃ v, e = .returned v) ∧
      ((∃ xs, xs = List.range (L.length / 2) ∧ J xs W') ∨ (∃ pre, (∃ k, k ≤ L.length / 2 ∧ 0 < k ∧ pre = List.range k) ∧ Jx pre W')) := by
  have HY := Lib.hid hY
  have HA := Lib.hid hA
  have HP := Lib.hid hp
  have HQ := Lib.hid hq
  have HLE := Lib.hid hL
  clear hY hA hp hq
  obtain ⟨n, hn⟩ : ∃ n, n = L.length := ⟨_, rfl⟩
  have HN := Lib.hid hn
  rw [← hn] at HP hL ⊢
  clear hn
  refine callsIn_of_wp Tryz.func163 rfl trivial ?_ rfl
  simp only [Tryz.ntmps163, List.size_toArray, List.length_cons, List.length_nil, Nat.reduceAdd, Nat.reduceSub, Array.replicate_succ, Array.replicate_zero, List.push_toArray, List.append_toArray, List.nil_append, List.cons_append]
  gi_wp2
  gi_loopw [3] (fun i wy => ∃ k : Nat, 2 * k ≤ n ∧ i = .int .i64 ((2 * k : Nat) : Int) ∧ J (List.range k) wy ∧ Hid (KeepP p q W wy)) (fun i _ => n + 2 - (intOf i).toNat)
  case atStart => exact ⟨0, by omega, rfl, hJ0, Lib.hid (KeepP.refl _ _ _)⟩
  case round =>
    obtain ⟨k, hk, rfl, hJ2, HK⟩ := hrel
    have cp : wr.cell? ⟨p, 0, none⟩ = some (.slice (some ⟨q, 0, none⟩) n n) := by
      have := HK.out.bp.trans HP.out
      simp [World.cell?, this]
    have hI : I32At wr q L := HK.out.bq.trans HQ.out
    by_cases hlt : 2 * k + 1 < n
    · have c0 := hI.get (2 * k) (by have := HN.out; omega)
      have c1 := hI.get (2 * k + 1) (by have := HN.out; omega)
      have hJd : J (List.range k) wr.drew := HA.out _ wr wr.drew none hJ2 ⟨rfl, rfl, rfl, Nat.le_refl _, fun _ _ _ => rfl⟩ (fun r e => by cases e)
      have hy := HY.out k wr.drew hJd (by have := HN.out; omega)
      obtain ⟨A, hAA⟩ : ∃ A, A = L.getD (2 * k) 0 := ⟨_, rfl⟩
      obtain ⟨B, hBB⟩ : ∃ A, A = L.getD (2 * k + 1) 0 := ⟨_, rfl⟩
      rw [← hAA] at c0
      rw [← hBB] at c1
      rw [← hAA, ← hBB] at hy
      obtain ⟨fn, tmps, assign, body, hy, hR⟩ := hy
      have HRR := Lib.hid (hR.mono (fun e W' (h : (e = .returned (.bool true) ∧ J (List.range (k + 1)) W' ∧ KeepP p q wr.drew W') ∨ (e = .returned (.bool false) ∧ Jx (List.range (k + 1)) W')) => (show ∃ b, e = .returned (.bool b) ∧ (b = true → J (List.range (k + 1)) W' ∧ KeepP p q wr.drew W') ∧ (b = false → Jx (List.range (k + 1)) W') from by
        rcases h with ⟨h1, h2⟩ | ⟨h1, h2⟩
        · exact ⟨true, h1, fun _ => h2, fun h => by cases h⟩
        · exact ⟨false, h1, fun h => (by cases h), fun _ => h2⟩)))
      obtain ⟨i, hi⟩ : ∃ i, i = 2 * k := ⟨_, rfl⟩
      rw [← hi] at c0 c1 hlt ⊢
      have HII := Lib.hid hi
      clear hi
      have i1 : (0 : Int) ≤ (i : Int) := by omega
      have i2 : (i : Int) + 1 < (n : Int) := by omega
      have i3 : (i : Int) < (n : Int) := by omega
      have i4 : (0 : Int) ≤ (i : Int) + 1 := by omega
      have i5 : IntKind.i64.wrap ((i : Int) + 1) = (i : Int) + 1 := by rw [IntKind.wrap_i64]; omega
      clear hR hI hAA hBB
      gi_upto_region 3 with (fail)
      gi_region_with (refine HRR.out.mono ?_; rintro e W3 ⟨bb, rfl, hJ3, hJx3⟩)
      all_goals
        cases bb
        · gi_wp2
          refine bodyPost_ret (results_none rfl _ _ _) rfl ?_
          exact ⟨⟨_, rfl⟩, .inr ⟨_, ⟨k + 1, by have := HII.out; omega, by omega, rfl⟩, (by first | exact hJx3 rfl | exact hJx3 trivial)⟩⟩
        · gi_wp2
          go_roundw
          case rel => exact ⟨k + 1, by have := HII.out; omega, by have := HII.out; go_num, (by first | exact (hJ3 rfl).1 | exact (hJ3 trivial).1), Lib.hid ((HK.out.drew).trans (by first | exact (hJ3 rfl).2 | exact (hJ3 trivial).2))⟩
          case measure => have := HII.out; simp [intOf]; omega
    · have HE := Lib.hid (show k = n / 2 by omega)
      obtain ⟨i, hi⟩ : ∃ i, i = 2 * k := ⟨_, rfl⟩
      rw [← hi]
      have i2 : ¬ (i : Int) + 1 < (n : Int) := by omega
      have i3 : i ≤ n := by omega
      clear hi hI
      gi_wp2
      go_end0
      exact ⟨⟨_, rfl⟩, .inl (by rw [← HE.out]; exact hJ2)⟩
end Go.Proofs.YtdomglkcfecnnaaGreat
