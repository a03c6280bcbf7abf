/- Runs: what is noted of a kind; the iterator over kinds. -/
import Derived.Test.YtcbdmaffcjdnbaaS3
import Derived.RangeFuncBox
import Derived.RangeFuncFrom
import Derived.Maps.OwnIn
namespace Go.Proofs.Ytcbdmaffcjdnbaa
open Go.RowKit Go.Shelf Go.Maps
attribute [local go_sem] Oper.semAt_some
set_option maxHeartbeats 1000000 in
theorem sum_yes {w : World} {n0 b mb m : Nat} {ov : Value} {S : TS} (h : TalI w n0 b mb m ov S) (s : ByteArray) (hs : s.size ≤ maxLen) : Calls Try.prog 14 #[.pointer (some ⟨b, 0, none⟩), .string s] w fun e w' => e = .returned (.tuple #[.int .i64 (kof S.ks s).c, .int .i64 (kof S.ks s).a, .int .i64 (kof S.ks s).t]) ∧ Below w.heap.size w w' := by
  obtain ⟨c0, c1, c2, c3, c4, c5, c6, hf, hl⟩ := h.cells.get
  have H6 := Lib.hid c6
  have HM := Lib.hid h.map
  have HS := Lib.hid hs
  obtain ⟨k, hk⟩ : ∃ k, kof S.ks s = k := ⟨_, rfl⟩
  have HK := Lib.hid hk
  rw [hk]
  clear h c0 c1 c2 c3 c4 c5 hf hs hk
  go_enter Try.func14, Try.ntmps14
  go_wp2_with (first | (go_at_call 27; refine (made_yes _ _ _ H6.out).mono ?_; rintro e w' ⟨rfl, rfl⟩) | (at_lookup; refine wpList_look_kd _ rfl rfl _ _ rfl mb m S.ks rfl HM.out s rfl HS.out ?_; rw [HK.out]; unfold kval))
  go_region
  go_wp2
  go_ret3
  exact ⟨rfl, ((Below.refl _ _).alloc (Nat.le_refl _) _).drew⟩
/-- 't.kinds[s]' inside a fence. -/
theorem wpListIn_look_kd {F : Fence} {nF : Nat} {P : Program} (w : World) {ops : Array Oper} {rest : List Oper} {o : Oper} {a : Act} {Q : Exit → Act → World → Prop}
    (hP : P = Try.prog) (hg : o.guard = none) (m x : Operand) (hop : o.op = Op.lookup 40 m x false) (mb M : Nat) (ks : List Kd) (hm : a.eval m = .map (some mb)) (hmap : MapIs w mb M ks) (s : ByteArray) (hx : a.eval x = .string s) (hs : s.size ≤ maxLen)
    (hK : wpListIn F nF P ops Q rest (a.put o.dst (kval (kof ks s))) w) : wpListIn F nF P ops Q (o :: rest) a w := by
  subst hP
  refine wpListIn_plain hg fun K' hK' => ?_
  obtain ⟨D, n, h1, h2, h3, h4⟩ := hmap.at
  obtain ⟨v, ps, hrun, hv⟩ := h2.lookup Try.law9 Try.underlying40 (zero38 w) (kelem_mk kz) (keyL_of hs)
  rw [h4] at hv
  obtain rfl := kelem_inv hv
  unfold Oper.wpIn
  refine ⟨by simp [Oper.about, hop], ?_⟩
  rw [Oper.semAt_plain F _ _ (by rw [hop]; intro c hc'; cases hc')]
  simp [execOp, hop, hm, hx, hrun, Result.andThen]
  exact hK' _ _ hK
theorem owns_slice {w : World} {base : Nat} {e : TypeId} {z : Nat} {v : Value} {n : Nat} {xs : List Value} (h : w.ownsRow base e z v n xs) : ∃ x cap, v = .slice x n cap := by
  rcases h.2 with ⟨rfl, h0⟩ | ⟨g, cap, cur, rfl, _⟩
  · subst h0; exact ⟨_, _, rfl⟩
  · exact ⟨_, _, rfl⟩
theorem kof_at {ks : List Kd} (once : ∀ i j, i < j → j < ks.length → (kn ks i).s ≠ (kn ks j).s) {i : Nat} (hi : i < ks.length) : kof ks (kn ks i).s = kn ks i := by
  have hp : plc ks (kn ks i).s = i := plc_eq ks _ i (by omega) (fun j hj => once j i hj hi) (.inr rfl)
  unfold kof; rw [hp, if_pos hi]
theorem name_cell {w : World} {n0 : Nat} {x : Option Addr} {cap : Nat} {ks : List Kd} (h : w.ownsRow n0 9 1 (.slice x ks.length cap) ks.length (names ks)) {i : Nat} (hi : i < ks.length) : ∃ g, x = some ⟨g, 0, none⟩ ∧ g < w.heap.size ∧ ∀ i, i < ks.length → w.cell? ⟨g, i, none⟩ = some (.string (kn ks i).s) := by
  have h' := h
  rcases h.2 with ⟨hv, h0⟩ | ⟨g, cp, cur, hv, hb, hg, hnc, hcm, hcs, htake⟩
  · omega
  · cases hv
    refine ⟨g, rfl, (Array.getElem?_eq_some_iff.1 hg).1, fun i hi => ?_⟩
    rw [h'.cellAt i (by omega)]
    simp [names, kn, List.getD, hi]
/-- What a round must keep: what is older, and the box that the iterator reads. -/
def KeepP (n₀ Bp : Nat) (A B : World) : Prop := Below n₀ A B ∧ B.heap[Bp]? = A.heap[Bp]?
theorem KeepP.refl (n₀ Bp : Nat) (A : World) : KeepP n₀ Bp A A := ⟨Below.refl _ _, rfl⟩
theorem KeepP.trans {n₀ Bp : Nat} {A B C : World} (h : KeepP n₀ Bp A B) (k : KeepP n₀ Bp B C) : KeepP n₀ Bp A C := ⟨h.1.trans k.1, k.2.trans h.2⟩
theorem field38 (c a t : Int) (W : World) : (Instr.field 38 (.agg #[.int .i64 c, .int .i64 a, .int .i64 t]) 0).run Try.prog W = .ok (.int .i64 c) W := by kernel_rfl
def kenc (ks : List Kd) (x : Fin ks.length) : Array Value := #[.string (kn ks x.1).s, .int .i64 (kn ks x.1).c]
set_option maxRecDepth 100000 in
set_option maxHeartbeats 2000000 in
theorem iter_in (l Bp n0 b mb m : Nat) (ov : Value) (S : TS) (w : World) (hT : TalI w n0 b mb m ov S) (hlen : S.ks.length ≤ 100) (hsz : ∀ i, i < S.ks.length → (kn S.ks i).s.size ≤ 32) (once : ∀ i j, i < j → j < S.ks.length → (kn S.ks i).s ≠ (kn S.ks j).s)
    (J Jx : List Nat → World → Prop)
    (hY : ∀ k W1, J (List.range k) W1 → k < S.ks.length → YieldAt Fence.wide 4 Try.prog l #[.string (kn S.ks k).s, .int .i64 (kn S.ks k).c] W1 fun e W' =>
      (e = .returned (.bool true) ∧ J (List.range (k + 1)) W' ∧ KeepP w.heap.size Bp W1 W') ∨ (e = .returned (.bool false) ∧ Jx (List.range (k + 1)) W'))
    (W : World) (hW : Below w.heap.size w W) (hBp : W.cell? ⟨Bp, 0, none⟩ = some (.pointer (some ⟨b, 0, none⟩))) (hJ0 : J [] W) :
    CallsIn Fence.wide 5 Try.prog 31 #[.func (.yield l) #[] #[], .pointer (some ⟨Bp, 0, none⟩)] W fun e W' => (∃ v, e = .returned v) ∧
      ((∃ xs, xs = List.range S.ks.length ∧ J xs W') ∨ (∃ pre, (∃ k, k ≤ S.ks.length ∧ 0 < k ∧ pre = List.range k) ∧ Jx pre W')) := by
  have hT1 := hT.below hW
  obtain ⟨c0, c1, c2, c3, c4, c5, c6, hf, hl⟩ := hT1.cells.get
  obtain ⟨x, cap, rfl⟩ := owns_slice hT.row
  have HY := Lib.hid hY
  have HT := Lib.hid hT
  have HT1 := Lib.hid hT1
  have HL := Lib.hid hlen
  have HZ := Lib.hid hsz
  have HO := Lib.hid once
  have H6 := Lib.hid c6
  obtain ⟨N, hN⟩ : ∃ N, S.ks.length = N := ⟨_, rfl⟩
  have HN := Lib.hid hN
  have hle : N ≤ 100 := by omega
  rw [hN] at c5 HY
  rw [hN]
  clear hT hT1 hlen hsz once hY c0 c1 c2 c3 c4 c6 hf hN
  refine callsIn_of_wp Try.func31 rfl trivial ?_ rfl
  simp only [Try.ntmps31, List.size_toArray, List.length_cons, List.length_nil, Nat.reduceAdd, Nat.reduceSub, Array.replicate_succ, Array.replicate_zero, List.push_toArray, List.append_toArray, List.nil_append, List.cons_append]
  gi_wp2_with (refine ⟨trivial, ?_⟩; gi_at_call 27; refine (callsIn_wide.2 (made_yes _ _ _ H6.out)).mono ?_; rintro e w' ⟨rfl, rfl⟩)
  gi_loopw [13] (fun i wr => ∃ k : Nat, k ≤ N ∧ i = .int .i64 k ∧ J (List.range k) wr ∧ Hid (KeepP w.heap.size Bp W wr)) (fun i _ => N - (intOf i).toNat)
  case atStart => exact ⟨0, Nat.zero_le _, rfl, hJ0, Lib.hid (KeepP.refl _ _ _)⟩
  case round =>
    obtain ⟨k, hk, rfl, hJs, HK⟩ := hrel
    by_cases hlt : k < N
    · have hB := hW.trans HK.out.1
      have hT2 := HT.out.below hB
      obtain ⟨c0, c1, c2, c3, c4, c5', c6, hf, hl⟩ := hT2.cells.get
      obtain ⟨g, rfl, hg, hcs⟩ := name_cell hT2.row (i := k) (by rw [HN.out]; exact hlt)
      have hck := hcs k (by rw [HN.out]; exact hlt)
      have hp : wr.cell? ⟨Bp, 0, none⟩ = some (.pointer (some ⟨b, 0, none⟩)) := (World.cell?_of_block HK.out.2).trans hBp
      have HM := Lib.hid hT2.map
      have HKO := Lib.hid (kof_at HO.out (i := k) (by rw [HN.out]; exact hlt))
      have HS := Lib.hid (show (kn S.ks k).s.size ≤ maxLen by have := HZ.out k (by rw [HN.out]; exact hlt); unfold maxLen; omega)
      obtain ⟨fn, tmps, assign, body, hy, hR⟩ := HY.out k wr hJs hlt
      have HR := Lib.hid hR
      have hfl := field38
      clear hR hcs c0 c1 c2 c3 c4 hT2 hf hB
      gi_wp2_with (gi_at_lookup; refine wpListIn_look_kd _ rfl rfl _ _ rfl mb m S.ks rfl HM.out (kn S.ks k).s rfl HS.out ?_; rw [HKO.out]; unfold kval)
      refine HR.out.mono ?_
      rintro e W3 (⟨rfl, hJ3, hk3⟩ | ⟨rfl, hJx3⟩)
      · gi_wp2
        go_roundw
        case rel => exact ⟨k + 1, by omega, by go_num, hJ3, Lib.hid (HK.out.trans hk3)⟩
        case measure => simp [intOf]; omega
      · gi_wp2
        refine bodyPost_ret (results_none rfl _ _ _) rfl ?_
        exact ⟨⟨_, rfl⟩, .inr ⟨_, ⟨k + 1, by omega, by omega, rfl⟩, hJx3⟩⟩
    · obtain rfl : k = N := by omega
      gi_wp2
      go_end0
      exact ⟨⟨_, rfl⟩, .inl ⟨_, rfl, hJs⟩⟩
end Go.Proofs.Ytcbdmaffcjdnbaa
