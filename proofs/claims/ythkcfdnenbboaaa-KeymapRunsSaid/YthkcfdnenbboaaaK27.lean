/- Walk: the iterator over all bindings. -/
import Derived.Test.YthkcfdnenbboaaaK26
namespace Go.Proofs.Ythkcfdnenbboaaa
open Go.RowKit Go.Shelf Go.Maps Go.Sort Go.ChangeMaps
attribute [local go_sem] Oper.semAt_some
theorem MapF.key_size {w : World} {mb m c : Nat} {f : Bnd} (h : MapF w mb m c f) {s : ByteArray} (hs : f.has s = true) : s.size ≤ maxLen := by
  obtain ⟨D, n, d1, hown, d3, d4, d5⟩ := h
  obtain ⟨es, hD, hko⟩ := hown.keysOf
  have h1 := d4 s
  rw [hs, hD, has_eq, List.any_eq_true] at h1
  obtain ⟨p, hp, hk⟩ := h1
  obtain ⟨v, hv⟩ := hko p hp
  obtain ⟨x, _, hx, hl⟩ := Maps.keyOf_str Try.underlying9 hv
  rw [hx] at hk
  have : x = s.data.toList := by simpa [Lit.sameKey, keyL] using hk
  rw [this] at hl
  exact hl
theorem rows_apart {w : World} {n0 n0' : Nat} {e e' : TypeId} {z n z' n' : Nat} {v v' : Value} {xs xs' : List Value} (h : w.ownsRow n0 e z v n xs) (h' : w.ownsRow n0' e' z' v' n' xs') (hne : e ≠ e') : v.ownBlock = none ∨ v.ownBlock ≠ v'.ownBlock := by
  cases hv : v.ownBlock with
  | none => exact .inl rfl
  | some j =>
    refine .inr (fun q => ?_)
    obtain ⟨cur, h1, _⟩ := row_block h hv
    obtain ⟨cur', h2, _⟩ := row_block h' q.symm
    rw [h1] at h2
    cases h2
    exact hne rfl
set_option maxRecDepth 100000 in
set_option maxHeartbeats 2000000 in
theorem iter_in (l Bp bx b mb m c : Nat) (f : Bnd) (ss : List (List UInt8)) (w W : World) (hM : MapI w b mb m c f) (hm : m ≤ 100000) (hs : NamesOf f ss) (hW : Below w.heap.size w W)
    (hBp : W.cell? ⟨Bp, 0, none⟩ = some (.pointer (some ⟨b, 0, none⟩))) (hBpl : Bp < W.heap.size) (hbx : W.cell? ⟨bx, 0, none⟩ = some (.slice none 0 0)) (hbxl : bx < W.heap.size)
    (J Jx : List Nat → World → Prop) (hA : AbidesFrom W.heap.size J)
    (hY : ∀ k W1, J (List.range k) W1 → k < ss.length → YieldAt Fence.wide 4 Try.prog l #[.string (nmAt ss k), .int .i64 (f.act (nmAt ss k))] W1 fun e W' =>
      (e = .returned (.bool true) ∧ J (List.range (k + 1)) W' ∧ KeepI bx W1 W') ∨ (e = .returned (.bool false) ∧ Jx (List.range (k + 1)) W'))
    (hJ0 : J [] W) :
    CallsIn Fence.wide 5 Try.prog 59 #[.func (.yield l) #[] #[], .pointer (some ⟨Bp, 0, none⟩)] W fun e W' => (∃ v, e = .returned v) ∧
      ((∃ xs, xs = List.range ss.length ∧ J xs W') ∨ (∃ pre, (∃ k, k ≤ ss.length ∧ 0 < k ∧ pre = List.range k) ∧ Jx pre W')) := by
  obtain ⟨i0, hi, hz0, hz1, hz2⟩ := info_parts Try.info30
  have HM := Lib.hid (hM.below hW)
  have HY := Lib.hid hY
  have HA := Lib.hid hA
  have HN := Lib.hid hs
  have hc := hM.map.count hs
  have hle := hM.map.le
  have HKS := Lib.hid (fun i (hi : i < ss.length) => hM.map.key_size (nm_has hs hi))
  have HMM := Lib.hid hm
  have HBX := Lib.hid hbx
  have HBP := Lib.hid hBp
  obtain ⟨N, hN⟩ : ∃ N, ss.length = N := ⟨_, rfl⟩
  have HNN := Lib.hid hN
  have hN2 : N ≤ 100000 := by omega
  rw [hN] at HY HKS ⊢
  clear hM hY hA hs hm hc hle hN hW hbx
  refine callsIn_of_wp Try.func59 rfl trivial ?_ rfl
  simp only [Try.ntmps59, List.size_toArray, List.length_cons, List.length_nil, Nat.reduceAdd, Nat.reduceSub, Array.replicate_succ, Array.replicate_zero, List.push_toArray, List.append_toArray, List.nil_append, List.cons_append]
  gi_wp2_with (refine ⟨trivial, ?_⟩; gi_at_call 60; refine (callsIn_wide.2 (wnames HM.out HMM.out)).mono ?_; rintro e w1 ⟨v, ss', rfl, hs', hrow, hb⟩; obtain rfl := names_unique HN.out hs'; obtain ⟨x, cap, rfl⟩ := owns_slice hrow; have HR := Lib.hid hrow; have HB := Lib.hid hb; clear hs' hrow hb; rw [HNN.out] at HR ⊢)
  gi_loopw [4, 13] (fun v4 i wr => ∃ k : Nat, k ≤ N ∧ i = .int .i64 k ∧ wr.ownsRow W.heap.size 30 1 v4 k (acts f ss k) ∧ Hid (Below W.heap.size W wr) ∧ Hid (wr.ownsRow W.heap.size 9 1 (.slice x N cap) N (ss.map encStr))) (fun _ i _ => N - (intOf i).toNat)
  case atStart => exact ⟨0, Nat.zero_le _, rfl, ⟨rfl, .inl ⟨rfl, rfl⟩⟩, HB, HR⟩
  case round =>
    obtain ⟨k, hk, rfl, hown, HB2, HR2⟩ := hrel
    by_cases hlt : k < N
    · have HMX := Lib.hid (HM.out.below HB2.out)
      have hcm := HMX.out.get.1
      have hbp := (HB2.out.cell (p := ⟨Bp, 0, none⟩) hBpl).trans HBP.out
      obtain ⟨g, rfl, hg, hcs⟩ := row_cell HR2.out hlt
      have hck := (hcs k hlt).trans (nm_get (by rw [HNN.out]; exact hlt))
      have HKK := Lib.hid (HKS.out k hlt)
      have hwz := HB2.out.size
      clear hcs
      gi_wp2_with (first
        | (gi_at_lookup; refine wpListIn_look _ rfl rfl _ _ rfl mb m c f rfl HMX.out.map (nmAt ss k) rfl HKK.out ?_)
        | (gi_at_builtin; refine wpListIn_append_own _ rfl _ _ 99 rfl W.heap.size 30 i0 (.int .i64 0) 1 8 Try.underlying99 hi hz0 hz1 hz2 rfl (by decide) _ _ _ rfl (hown.alloc _) ⟨wr.heap.size, 0, none⟩ 1 1 [.int .i64 (f.act (nmAt ss k))] rfl rfl (cell_one_new _ _ _) (by simp [Value.oneCell']) (by unfold maxLen; omega) (by omega) (by simp; omega) ?_; intro v' w3 hown' hg3 hnil3; go_frame)
        | gi_in)
      go_roundw
      case rel =>
        refine ⟨k + 1, by omega, by go_num, by rw [acts_snoc]; simpa using hown', Lib.hid ?_, Lib.hid ?_⟩
        · exact (HB2.out.alloc (by omega) _).grown hg3 (by simp; omega) (fun j hj => (hown.lt j hj).1)
        · exact (HR2.out.alloc _).kept hg3 (rows_apart (HR2.out.alloc (.cells #[.int .i64 (f.act (nmAt ss k))] 30)) (hown.alloc _) (by decide))
      case measure => simp [intOf]; omega
    · obtain rfl : k = N := by omega
      obtain ⟨y, cap4, rfl⟩ := owns_slice hown
      have HO := Lib.hid hown
      obtain ⟨wo, rfl⟩ : ∃ wo : World, wo = wr := ⟨_, rfl⟩
      have hJ1 := HA.out _ W wo none hJ0 ⟨HB2.out.os, HB2.out.tape, HB2.out.output, HB2.out.size, fun i hi _ => HB2.out.block i hi⟩ (fun r e => by cases e)
      have hown0 : ownAt wo bx = none := by
        unfold ownAt
        rw [HB2.out.cell (p := ⟨bx, 0, none⟩) hbxl, HBX.out]; rfl
      have HOW := Lib.hid hown0
      clear hown hown0 hlt
      gi_wp2
      gi_loopw [29] (fun i wy => ∃ j : Nat, j ≤ k ∧ i = .int .i64 j ∧ J (List.range j) wy ∧ Hid (KeepI bx wo wy)) (fun i _ => k - (intOf i).toNat)
      case atStart => exact ⟨0, Nat.zero_le _, rfl, hJ1, Lib.hid (KeepI.refl _ _)⟩
      case round =>
        obtain ⟨j, hj, rfl, hJ2, HK⟩ := hrel
        by_cases hlt : j < k
        · obtain ⟨g, rfl, hg, hcs⟩ := row_cell HR2.out hlt
          obtain ⟨g4, rfl, hg4, hcs4⟩ := row_cell HO.out hlt
          obtain ⟨cur, hcur, _⟩ := row_block HR2.out (j := g) rfl
          obtain ⟨cur4, hcur4, _⟩ := row_block HO.out (j := g4) rfl
          have k1 := HK.out.row g (by rw [hcur]; exact ⟨_, _, .inl rfl⟩) (fun g0 hg0 => by rw [HOW.out] at hg0; cases hg0)
          have k4 := HK.out.row g4 (by rw [hcur4]; exact ⟨_, _, .inr rfl⟩) (fun g0 hg0 => by rw [HOW.out] at hg0; cases hg0)
          have hck := (World.cell?_of_block k1).trans ((hcs j hlt).trans (nm_get (by rw [HNN.out]; exact hlt)))
          have hca := (World.cell?_of_block k4).trans ((hcs4 j hlt).trans (acts_get f ss hlt))
          obtain ⟨fn, tmps, assign, body, hy, hR⟩ := HY.out j wr hJ2 hlt
          have HRR := Lib.hid hR
          clear hcs hcs4 hcur hcur4 k1 k4 hR
          gi_wp2
          refine HRR.out.mono ?_
          rintro e W3 (⟨rfl, hJ3, hk3⟩ | ⟨rfl, hJx3⟩)
          · gi_wp2
            go_roundw
            case rel => exact ⟨j + 1, by omega, by go_num, hJ3, Lib.hid (HK.out.trans hk3)⟩
            case measure => simp [intOf]; omega
          · gi_wp2
            refine bodyPost_ret (results_none rfl _ _ _) rfl ?_
            exact ⟨⟨_, rfl⟩, .inr ⟨_, ⟨j + 1, by omega, by omega, rfl⟩, hJx3⟩⟩
        · obtain rfl : j = k := by omega
          gi_wp2
          go_end0
          exact ⟨⟨_, rfl⟩, .inl ⟨_, rfl, hJ2⟩⟩
end Go.Proofs.Ythkcfdnenbboaaa
