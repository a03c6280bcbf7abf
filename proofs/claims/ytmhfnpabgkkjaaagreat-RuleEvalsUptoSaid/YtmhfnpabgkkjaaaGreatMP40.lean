/- Own texts, merged: T5. -/
import Derived.Lib.IndexLaws
import Derived.Lib.IndexMore
import Derived.Test.YtmhfnpabgkkjaaaGreatMP39
/- Walks: the reference's values: truly, num, equal, abs, stands, plain. -/
namespace Go.Proofs.YtmhfnpabgkkjaaaGreat
open Go.RowKit Go.Shelf Ieee
attribute [local go_sem] run_store_float
set_option maxHeartbeats 1000000 in
theorem rtrulyV (b : Bool) (w : World) : Calls Tryz.prog 70 #[.bool b] w (VEnd (avB b) w) := by
  go_enter Tryz.func70, Tryz.ntmps70
  go_wp2
  refine bodyPost_ret (val_res rfl _ _ w.heap.size _ _ _ _ rfl (heap_alloc_new _ _)) rfl ?_
  exact ⟨(Below.refl _ _).alloc (Nat.le_refl _) _, _, rfl, 0, rfl, fA_zero⟩
theorem rnumV (n : Nat) (w : World) : Calls Tryz.prog 23 #[.float .f64 n] w (VEnd (avN (fA n)) w) :=
  (rnum n w).mono fun _ _ h => ⟨h.2, _, h.1, n, rfl, rfl⟩
set_option maxHeartbeats 4000000 in
theorem requalV (va vb : Value) (a b : Av) (w : World) (ha : ValV va a) (hb : ValV vb b) : Calls Tryz.prog 73 #[va, vb] w fun e w' => e = .returned (.bool (eqA a b)) ∧ Below w.heap.size w w' := by
  obtain ⟨na, rfl, h1⟩ := ha
  obtain ⟨nb, rfl, h2⟩ := hb
  have hal : ∀ o1 o2, Below w.heap.size w ((w.alloc o1).alloc o2) := fun o1 o2 => ((Below.refl _ _).alloc (Nat.le_refl _) _).alloc (by simp) _
  have HAL := Lib.hid hal
  by_cases q1 : a.t = 1
  · have HE : Hid ((FloatKind.f64.format.order na nb == some .eq) = eqA a b) := Lib.hid (by unfold eqA; rw [if_pos q1, isEq_order, h1, h2])
    rw [q1]
    generalize b.t = tb
    clear h1 h2 hal q1
    go_enter Tryz.func73, Tryz.ntmps73
    go_wp2
    go_ret
    exact ⟨ret_bool HE.out, HAL.out _ _⟩
  · by_cases q2 : a.t = 2
    · have HE : Hid (((tx a.s).toList == (tx b.s).toList) = eqA a b) := Lib.hid (by unfold eqA; rw [if_neg q1, if_pos q2, tx_toList, tx_toList]; by_cases e : a.s = b.s <;> simp [e])
      rw [q2]
      generalize b.t = tb
      clear h1 h2 hal q1 q2
      go_enter Tryz.func73, Tryz.ntmps73
      go_wp2
      go_ret
      exact ⟨ret_bool HE.out, HAL.out _ _⟩
    · have HE : Hid ((a.b == b.b) = eqA a b) := Lib.hid (by unfold eqA; rw [if_neg q1, if_neg q2])
      have i1 : ((a.t : Int) == 1) = false := by simp; omega
      have i2 : ((a.t : Int) == 2) = false := by simp; omega
      generalize a.t = ta at q1 q2 i1 i2 ⊢
      generalize b.t = tb
      clear h1 h2 hal
      go_enter Tryz.func73, Tryz.ntmps73
      go_wp2
      go_ret
      exact ⟨ret_bool HE.out, HAL.out _ _⟩
/-- The reference's abs. -/
def absR (x : Nat) : Nat := if (double.order x 0 == some .eq) = true then 0 else x ^^^ 2 ^ 63
set_option maxHeartbeats 1000000 in
theorem rabsF (x : Nat) (w : World) : Calls Tryz.prog 72 #[.float .f64 x] w fun e w' => e = .returned (.float .f64 (absR x)) ∧ w = w' := by
  have hU : ∀ W, (Op.unary UnOp.neg (.float .f64 x)).run Tryz.prog W = .ok (.float .f64 (x ^^^ 2 ^ 63)) W := fun _ => rfl
  unfold absR
  generalize x ^^^ 2 ^ 63 = y at hU ⊢
  cases h : (FloatKind.f64.format.order x 0 == some .eq)
  · rw [if_neg (by rw [show (double.order x 0 == some .eq) = false from h]; decide)]
    go_enter Tryz.func72, Tryz.ntmps72
    go_wp2
    go_ret
    exact ⟨rfl, rfl⟩
  · rw [if_pos (show (double.order x 0 == some .eq) = true from h)]
    go_enter Tryz.func72, Tryz.ntmps72
    go_wp2
    go_ret
    exact ⟨rfl, rfl⟩
theorem occ_piece (l t : Bs) (i : Nat) : (((tx l).extract i (i + t.length)).toList == (tx t).toList) = Lib.occAt l t i := by
  rw [tx_extract, beq_bytes, show i + t.length - i = t.length by omega, Bool.eq_iff_iff, decide_eq_true_iff]
  unfold Lib.occAt
  rw [List.isPrefixOf_iff_prefix, List.prefix_iff_eq_take]
  exact ⟨fun h => (tx_inj h).symm, fun h => by rw [← h]⟩
theorem contains_hit {l t : Bs} {i : Nat} (hi : i ≤ l.length) (h : Lib.occAt l t i = true) : Lib.contains l t = true := by
  unfold Lib.contains
  rw [decide_eq_true_iff]
  rcases Lib.index_spec l t with ⟨_, h2⟩ | ⟨j, h2, _⟩
  · rw [h2 i hi] at h; cases h
  · rw [h2]; omega
theorem contains_past {l t : Bs} {i : Nat} (hn : ∀ j, j < i → Lib.occAt l t j = false) (h : l.length < i + t.length) : Lib.contains l t = false := by
  unfold Lib.contains
  rw [decide_eq_false_iff_not, Lib.index_none (fun j hj => ?_)]
  · decide
  · by_cases e : j < i
    · exact hn j e
    · unfold Lib.occAt
      rw [Bool.eq_false_iff]
      intro q
      rw [List.isPrefixOf_iff_prefix] at q
      have := q.length_le
      simp at this
      omega
set_option maxHeartbeats 1000000 in
theorem rstands (l t : Bs) (hl : l.length ≤ 1000000) (ht : t.length ≤ 1000000) (w : World) : Calls Tryz.prog 74 #[.string (tx t), .string (tx l)] w fun e w' => e = .returned (.bool (Lib.contains l t)) ∧ w = w' := by
  have HO := Lib.hid (fun i => occ_piece l t i)
  have hs1 := tx_size' l
  have hs2 := tx_size' t
  obtain ⟨T, hT⟩ : ∃ T, T = tx l := ⟨_, rfl⟩
  obtain ⟨U, hU⟩ : ∃ T, T = tx t := ⟨_, rfl⟩
  rw [← hT] at hs1 HO ⊢
  rw [← hU] at hs2 HO ⊢
  rw [← hs2] at HO
  have HS := Lib.hid (And.intro hs1 hs2)
  have g1 : T.size ≤ 1000000 := by omega
  have g2 : U.size ≤ 1000000 := by omega
  clear hT hU hs1 hs2 hl ht
  go_enter Tryz.func74, Tryz.ntmps74
  go_wp2
  go_loopg [5] (T.size + 1) (fun gh v wr => ∃ i : Nat, v = .int .i64 (i : Int) ∧ i + gh = T.size + 1 ∧ Hid (∀ j, j < i → Lib.occAt l t j = false) ∧ w = wr)
  case atStart => exact ⟨0, rfl, by omega, Lib.hid (fun j hj => by omega), rfl⟩
  case round =>
    obtain ⟨i, rfl, hi, HN, rfl⟩ := hrel
    have i1 : (0 : Int) ≤ (i : Int) := by omega
    by_cases hle : i + U.size ≤ T.size
    · have i3 : (i : Int) + (U.size : Int) ≤ (T.size : Int) := by omega
      have i4 : (i : Int) ≤ (i : Int) + (U.size : Int) := by omega
      have i5 : (0 : Int) ≤ (i : Int) + (U.size : Int) := by omega
      have i6 : ((i : Int) + (U.size : Int)).toNat = i + U.size := by omega
      have HOI := Lib.hid (HO.out i)
      obtain ⟨V, hV⟩ : ∃ V, V = Lib.occAt l t i := ⟨_, rfl⟩
      have HV := Lib.hid hV
      rw [← hV] at HOI
      have hq := HOI.out
      clear hV
      cases V
      · go_wp2
        go_roundg (gk - 1)
        case measure => omega
        case rel => exact ⟨i + 1, by go_num, by omega, Lib.hid (fun j hj => by
          by_cases e : j = i
          · rw [e]; exact HV.out.symm
          · exact HN.out j (by omega)), rfl⟩
      · go_wp2
        go_ret
        exact ⟨ret_bool (contains_hit (by have := HS.out; omega) HV.out.symm).symm, rfl⟩
    · have i3 : ¬ (i : Int) + (U.size : Int) ≤ (T.size : Int) := by omega
      go_wp2
      go_ret
      exact ⟨ret_bool (contains_past HN.out (by have := HS.out; omega)).symm, rfl⟩
set_option maxRecDepth 100000 in
set_option maxHeartbeats 4000000 in
theorem rplain (b v : Vl) (hp : plainV b = some v) (w : World) : Calls Tryz.prog 44 #[vlV b] w (VEnd (avOf v) w) := by
  obtain ⟨t, n, s, bb⟩ := b
  show Calls Tryz.prog 44 #[.agg #[.int .i64 t, .float .f64 n, .string (tx s), .bool bb]] w _
  have HNM := Lib.hid (fun c W => rnumV c W)
  have HTR := Lib.hid (fun c W => rtrulyV c W)
  have h2 : VB ((w.alloc (.cells #[.int .i64 t, .float .f64 n, .string (tx s), .bool bb] 40)).alloc (.cells #[.int .i64 0, .float .f64 0, .string ⟨#[]⟩, .bool false] 40)) (w.heap.size + 1) (.int .i64 0) (.float .f64 0) (.string ⟨#[]⟩) (.bool false) := by
    have := heap_alloc_new (w.alloc (.cells #[.int .i64 t, .float .f64 n, .string (tx s), .bool bb] 40)) (.cells #[.int .i64 0, .float .f64 0, .string ⟨#[]⟩, .bool false] 40)
    simpa [VB] using this
  have h1 : VB ((w.alloc (.cells #[.int .i64 t, .float .f64 n, .string (tx s), .bool bb] 40)).alloc (.cells #[.int .i64 0, .float .f64 0, .string ⟨#[]⟩, .bool false] 40)) w.heap.size (.int .i64 t) (.float .f64 n) (.string (tx s)) (.bool bb) :=
    (show VB (w.alloc (.cells #[.int .i64 t, .float .f64 n, .string (tx s), .bool bb] 40)) w.heap.size _ _ _ _ from heap_alloc_new _ _).below ((Below.refl _ _).alloc (Nat.le_refl _) _)
  have hb : Below w.heap.size w ((w.alloc (.cells #[.int .i64 t, .float .f64 n, .string (tx s), .bool bb] 40)).alloc (.cells #[.int .i64 0, .float .f64 0, .string ⟨#[]⟩, .bool false] 40)) := ((Below.refl _ _).alloc (Nat.le_refl _) _).alloc (by simp) _
  have H1 := Lib.hid h1
  have H2 := Lib.hid h2
  have HB := Lib.hid hb
  have HP := Lib.hid hp
  clear h1 h2 hb hp
  go_enter Tryz.func44, Tryz.ntmps44
  go_upto_region 1 with (fail)
  generalize ((w.alloc (.cells #[.int .i64 t, .float .f64 n, .string (tx s), .bool bb] 40)).alloc (.cells #[.int .i64 0, .float .f64 0, .string ⟨#[]⟩, .bool false] 40)) = W0 at H1 H2 HB ⊢
  obtain ⟨c0, c1, c2, c3⟩ := H1.out.cells
  have hlt := H2.out.lt
  have HFIN : Hid (∀ (A : Av) (W : World) (u : Value), avOf v = A → Below W0.heap.size W0 W → ValV u A → VB W (w.heap.size + 1) (.int .i64 0) (.float .f64 0) (.string ⟨#[]⟩) (.bool false) ∧ ∃ k, u = .agg #[.int .i64 A.t, .float .f64 k, .string (tx A.s), .bool A.b] ∧ VB (putN W (w.heap.size + 1) (.int .i64 A.t) (.float .f64 k) (.string (tx A.s)) (.bool A.b)) (w.heap.size + 1) (.int .i64 A.t) (.float .f64 k) (.string (tx A.s)) (.bool A.b) ∧
      VEnd (avOf v) w (.returned (.agg #[.int .i64 A.t, .float .f64 k, .string (tx A.s), .bool A.b])) (putN W (w.heap.size + 1) (.int .i64 A.t) (.float .f64 k) (.string (tx A.s)) (.bool A.b))) := Lib.hid (fun A W u hA hW ⟨k, hu, hk⟩ => by
    rw [hA]
    have h3 := H2.out.below hW
    exact ⟨h3, k, hu, h3.put, below_put (HB.out.trans (below_le hW HB.out.size)) (by omega), _, rfl, k, rfl, hk⟩)
  by_cases t1 : t = 1
  · subst t1
    have HM : Hid (avOf v = avN (fA n)) := Lib.hid (by have h := HP.out; unfold plainV at h; simp only [if_pos] at h; cases h; rfl)
    clear HP H1 H2
    go_wp2_with (first | (go_at_call 23; fail))
    go_at_call 23
    refine (HNM.out _ _).mono ?_
    rintro e w8 ⟨hb8, v8, rfl, hv8⟩
    obtain ⟨hz, n8, rfl, hz2, hend⟩ := HFIN.out _ _ _ HM.out hb8 hv8
    have HE := Lib.hid (And.intro hz2 hend)
    obtain ⟨k0, k1, k2, k3⟩ := hz.cells
    have f0 := hz.fr 0
    have f1 := hz.fr 1
    have f2 := hz.fr 2
    have f3 := hz.fr 3
    clear hz hz2 hend hb8 hv8
    go_wp2
    exact bodyPost_ret (val_res rfl _ _ (w.heap.size + 1) _ _ _ _ rfl HE.out.1) rfl HE.out.2
  · have i1 : (t == 1) = false := by simpa using t1
    by_cases t2 : t = 2
    · subst t2
      have HM : Hid (avOf v = ⟨2, some 0, s, false⟩) := Lib.hid (by have h := HP.out; unfold plainV at h; rw [if_neg t1] at h; simp only [if_pos] at h; cases h; rfl)
      obtain ⟨hz, k, hk, hz2, hend⟩ := HFIN.out ⟨2, some 0, s, false⟩ W0 (.agg #[.int .i64 2, .float .f64 0, .string (tx s), .bool false]) HM.out (Below.refl _ _) ⟨0, rfl, fA_zero⟩
      cases hk
      have HE := Lib.hid (And.intro hz2 hend)
      obtain ⟨k0, k1, k2, k3⟩ := hz.cells
      have f0 := hz.fr 0
      have f1 := hz.fr 1
      have f2 := hz.fr 2
      have f3 := hz.fr 3
      clear hz hz2 hend HP HM H1 H2
      go_wp2
      exact bodyPost_ret (val_res rfl _ _ (w.heap.size + 1) _ _ _ _ rfl HE.out.1) rfl HE.out.2
    · have i2 : (t == 2) = false := by simpa using t2
      have HM : Hid (avOf v = avB bb) := Lib.hid (by
        have h := HP.out
        unfold plainV at h
        rw [if_neg t1, if_neg t2] at h
        simp only at h
        split at h
        · cases h
          show (⟨3, fA 0, [], bb⟩ : Av) = avB bb
          rw [fA_zero]
          rfl
        · cases h)
      clear HP H1 H2
      go_wp2_with (first | (go_at_call 70; fail))
      go_at_call 70
      refine (HTR.out _ _).mono ?_
      rintro e w8 ⟨hb8, v8, rfl, hv8⟩
      obtain ⟨hz, n8, rfl, hz2, hend⟩ := HFIN.out _ _ _ HM.out hb8 hv8
      have HE := Lib.hid (And.intro hz2 hend)
      obtain ⟨k0, k1, k2, k3⟩ := hz.cells
      have f0 := hz.fr 0
      have f1 := hz.fr 1
      have f2 := hz.fr 2
      have f3 := hz.fr 3
      clear hz hz2 hend hb8 hv8
      go_wp2
      exact bodyPost_ret (val_res rfl _ _ (w.heap.size + 1) _ _ _ _ rfl HE.out.1) rfl HE.out.2
end Go.Proofs.YtmhfnpabgkkjaaaGreat
