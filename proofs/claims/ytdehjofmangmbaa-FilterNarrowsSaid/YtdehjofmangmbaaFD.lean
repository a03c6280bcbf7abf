/- Walks: find. -/
import Derived.Test.YtdehjofmangmbaaFC
namespace Go.Proofs.Ytdehjofmangmbaa
open Go.RowKit Go.Shelf
theorem besS_mem {o wd : List Bs} {x : Nat} (h : x ∈ besS o wd) : x + wd.length ≤ o.length ∧ isAt o wd x = true := by
  unfold besS at h
  obtain ⟨_, h2⟩ := List.mem_filter.1 h
  refine ⟨?_, h2⟩
  unfold isAt at h2
  exact (of_decide_eq_true h2).1
theorem besS_inc (o wd : List Bs) : (besS o wd).Pairwise (· < ·) := List.Pairwise.filter _ List.pairwise_lt_range
theorem besS_nil (o : List Bs) : besS o [] ≠ [] := by
  intro e
  have : 0 ∈ besS o [] := by
    unfold besS
    rw [List.mem_filter]
    exact ⟨by simp, by unfold isAt; simp⟩
  rw [e] at this
  cases this
theorem besS_len (o wd : List Bs) : (besS o wd).length ≤ o.length + 1 := by
  have := filter_le (isAt o wd) (o.length + 1 - wd.length)
  unfold besS
  omega
theorem fnd_nil {o wd : List Bs} (h : besS o wd = []) : fndS o wd = sprS o wd := by unfold fndS; rw [h]
theorem fnd_zero {o wd : List Bs} (hp : 0 < (besS o wd).length) (h : (besS o wd).getD 0 0 = 0) : fndS o wd = some ⟨if wd.length = o.length then 0 else 1, 0, runN 0 wd.length⟩ := by
  unfold fndS
  cases hb : besS o wd with
  | nil => rw [hb] at hp; simp at hp
  | cons p r =>
    rw [hb] at h
    simp only [List.getD_cons_zero] at h
    simp only
    rw [if_pos h]
theorem fnd_hit {o wd : List Bs} {j : Nat} (hj : j < (besS o wd).length) (h0 : (besS o wd).getD 0 0 ≠ 0) (h : ltr (o.getD ((besS o wd).getD j 0 - 1) []) = false) (hq : ∀ q, q < j → ltr (o.getD ((besS o wd).getD q 0 - 1) []) = true) : fndS o wd = some ⟨2, 0, runN ((besS o wd).getD j 0) wd.length⟩ := by
  unfold fndS
  revert hj h0 h hq
  cases hb : besS o wd with
  | nil => intro hj; simp at hj
  | cons p r =>
    intro hj h0 h hq
    simp only [List.getD_cons_zero] at h0
    simp only
    rw [if_neg h0]
    have e : (p :: r).find? (fun i => !ltr (o.getD (i - 1) [])) = some ((p :: r).getD j 0) := by
      rw [List.find?_eq_some_iff_getElem]
      refine ⟨by rw [h]; rfl, j, hj, by rw [List.getD_eq_getElem?_getD, List.getElem?_eq_getElem hj]; rfl, fun q hqj => ?_⟩
      have := hq q hqj
      rw [List.getD_eq_getElem?_getD (l := p :: r), List.getElem?_eq_getElem (by omega)] at this
      simp only [Option.getD_some] at this
      rw [this]
      rfl
    rw [e]
theorem fnd_last {o wd : List Bs} (hp : 0 < (besS o wd).length) (h0 : (besS o wd).getD 0 0 ≠ 0) (hq : ∀ q, q < (besS o wd).length → ltr (o.getD ((besS o wd).getD q 0 - 1) []) = true) : fndS o wd = some ⟨3, 0, runN ((besS o wd).getD 0 0) wd.length⟩ := by
  unfold fndS
  revert hp h0 hq
  cases hb : besS o wd with
  | nil => intro hj; simp at hj
  | cons p r =>
    intro hj h0 hq
    simp only [List.getD_cons_zero] at h0 ⊢
    rw [if_neg h0]
    have e : (p :: r).find? (fun i => !ltr (o.getD (i - 1) [])) = none := by
      rw [List.find?_eq_none]
      intro x hx
      obtain ⟨q, hq1, rfl⟩ := List.getElem_of_mem hx
      have := hq q hq1
      rw [List.getD_eq_getElem?_getD (l := p :: r), List.getElem?_eq_getElem hq1] at this
      simp only [Option.getD_some] at this
      rw [this]
      simp
    rw [e]
theorem runN_len (i n : Nat) : (runN i n).length = n := by simp [runN]
/-- A struct written into the result's block. -/
theorem fnd_put {T : TypeId} {w W : World} {z0 z1 z2 : Value} {x : Option Addr} {c r g : Nat} {l : List Nat} (hz : C3 T W w.heap.size z0 z1 z2) (hT : T ≠ 3) (hI : IntO w.heap.size W (.slice x l.length c) l) (hB : Below w.heap.size w W) :
    C3 T (put3 W w.heap.size (.int .i64 r) (.int .i64 g) (.slice x l.length c)) w.heap.size (.int .i64 r) (.int .i64 g) (.slice x l.length c) ∧ FndO w.heap.size (put3 W w.heap.size (.int .i64 r) (.int .i64 g) (.slice x l.length c)) (.agg #[.int .i64 r, .int .i64 g, .slice x l.length c]) ⟨r, g, l⟩ ∧ Below w.heap.size w (put3 W w.heap.size (.int .i64 r) (.int .i64 g) (.slice x l.length c)) :=
  ⟨hz.put, ⟨x, c, rfl, hI.put3 hz hT⟩, below_put3 hB (Nat.le_refl _)⟩
theorem FndO.parts {b : Nat} {W : World} {v : Value} {f : Fnd} (h : FndO b W v f) : ∃ x c, v = .agg #[.int .i64 f.rank, .int .i64 f.gaps, .slice x f.at_.length c] ∧ IntO b W (.slice x f.at_.length c) f.at_ := h
set_option maxRecDepth 100000 in
set_option maxHeartbeats 800000 in
theorem wfind (vo vw : Value) (o wd : List Bs) (ho : ∀ c ∈ o, c ≠ []) (w : World) (h1 : TxV w vo o) (h2 : TxV w vw wd) : Calls Try.prog 16 #[vo, vw] w (FndEnd (fndS o wd) w) := by
  have HBE := Lib.hid (fun (W : World) (hB : Below w.heap.size w W) => wbeside vo vw o wd W (h1.below hB) (h2.below hB))
  have HSP := Lib.hid (fun (hw : wd ≠ []) (W : World) (hB : Below w.heap.size w W) => wspread vo vw o wd hw W (h1.below hB) (h2.below hB))
  unfold FndEnd at HSP
  have HOV := Lib.hid (fun (W : World) (hB : Below w.heap.size w W) => (h1.below hB).old)
  have HON := Lib.hid ho
  obtain ⟨xo, co, rfl, _, hn6, _⟩ := h1.old
  obtain ⟨xw, cw, rfl, _, hm6, _⟩ := h2.old
  obtain ⟨n, hn⟩ : ∃ n, n = o.length := ⟨_, rfl⟩
  have HN := Lib.hid hn
  obtain ⟨m, hm⟩ : ∃ m, m = wd.length := ⟨_, rfl⟩
  have HM := Lib.hid hm
  have HZ0 : Hid (C3 32 (w.alloc (.cells #[.int .i64 0, .int .i64 0, .slice none 0 0] 32)) w.heap.size (.int .i64 0) (.int .i64 0) (.slice none 0 0)) := Lib.hid (heap_alloc_new _ _)
  have HB0 : Hid (Below w.heap.size w (w.alloc (.cells #[.int .i64 0, .int .i64 0, .slice none 0 0] 32))) := Lib.hid ((Below.refl _ _).alloc (Nat.le_refl _) _)
  rw [← hn] at hn6 HBE HSP HOV ⊢
  rw [← hm] at hm6 HBE HSP ⊢
  clear h1 h2 hn hm ho
  go_enter Try.func16, Try.ntmps16
  go_wp2_with (first | (go_at_call 23; fail))
  generalize (w.alloc (.cells #[.int .i64 0, .int .i64 0, .slice none 0 0] 32)) = W0 at HZ0 HB0 ⊢
  go_at_call 23
  refine (HBE.out W0 HB0.out).mono ?_
  rintro e w1 ⟨v, rfl, hI, hb1⟩
  obtain ⟨xv, cv, rfl⟩ := hI.is
  have HB1 := Lib.hid (HB0.out.trans (below_le hb1 HB0.out.size))
  have HZ1 := Lib.hid (HZ0.out.below hb1)
  have HI1 := Lib.hid hI
  have HLN := Lib.hid (besS_len o wd)
  obtain ⟨k, hk⟩ : ∃ k, k = (besS o wd).length := ⟨_, rfl⟩
  have HK := Lib.hid hk
  rw [← hk] at hI HI1 ⊢
  have hk6 : k ≤ 1000001 := by have := HLN.out; have := HN.out; omega
  clear hk hb1 HZ0 HB0 hI HBE
  by_cases hk0 : k = 0
  · subst hk0
    have hbn : besS o wd = [] := List.length_eq_zero_iff.1 HK.out.symm
    have hwn : wd ≠ [] := fun e => by rw [e] at hbn; exact besS_nil o hbn
    have HR := Lib.hid (fnd_nil hbn)
    have HSP2 := Lib.hid (HSP.out hwn w1 HB1.out)
    clear hbn hwn HSP
    go_wp2_with (first | (go_at_call 24; fail))
    refine HSP2.out.mono ?_
    rintro e w2 ⟨v2, rfl, hv2, hb2⟩
    obtain ⟨x2, c2, rfl, hI2⟩ := hv2.parts
    have HZ2 := Lib.hid (HZ1.out.below hb2)
    have HB2 := Lib.hid (HB1.out.trans (below_le hb2 HB1.out.size))
    have HI2 := Lib.hid (hI2.mono HB1.out.size)
    have HPZ := Lib.hid (fnd_put (r := (fnd0 (sprS o wd)).rank) (g := (fnd0 (sprS o wd)).gaps) HZ2.out (by decide) HI2.out HB2.out)
    obtain ⟨e0, e1, e2, f0, f1, f2⟩ := HZ2.out.cells
    unfold put3 at HPZ
    clear hv2 hI2 hb2 HSP2 HI1
    go_wp2
    refine bodyPost_ret (results_cell_tmp rfl _ _ w.heap.size 32 _ _ _ rfl HPZ.out.1 Try.underlying32 rfl (by kernel_rfl)) rfl ?_
    rw [HR.out]
    exact ⟨_, rfl, HPZ.out.2.1, HPZ.out.2.2⟩
  · have HI1' : Hid (IntO W0.heap.size w1 (.slice xv k cv) (besS o wd)) := HI1
    obtain ⟨hkk, gb, rfl, hgb, hkc, hget⟩ := HI1'.out.get 0 (by have := HK.out; omega)
    clear hkk
    have HGB := Lib.hid hget
    have c0 := hget 0 (by have := HK.out; omega)
    have HIN := Lib.hid (besS_inc o wd)
    have HME := Lib.hid (fun x (h : x ∈ besS o wd) => besS_mem h)
    obtain ⟨p, hp⟩ : ∃ p, p = (besS o wd).getD 0 0 := ⟨_, rfl⟩
    have HP := Lib.hid hp
    rw [← hp] at c0
    have hp6 : p ≤ 1000000 := by
      have h1 := (HME.out p (by rw [hp, List.getD_eq_getElem?_getD, List.getElem?_eq_getElem (by have := HK.out; omega)]; exact List.getElem_mem _)).1
      have := HN.out
      omega
    have hkz : ((k : Int) == 0) = false := by rw [beq_eq_false_iff_ne]; omega
    have hkc2 : k ≤ cv := by have := HK.out; omega
    clear hget hp hgb hkc HI1' HSP
    by_cases hp0 : p = 0
    · subst hp0
      have HR0 := Lib.hid (fnd_zero (o := o) (wd := wd) (by have := HK.out; omega) HP.out.symm)
      have HRUN : Hid (∀ W, Calls Try.prog 25 #[.int .i64 0, .int .i64 m] W fun e w' => ∃ v, e = .returned v ∧ IntO W.heap.size w' v (runN 0 m) ∧ Below W.heap.size W w') := Lib.hid (fun W => wrun 0 m (by omega) hm6 W)
      by_cases hmn : m = n
      · have HR : Hid (fndS o wd = some ⟨0, 0, runN 0 m⟩) := Lib.hid (by rw [HR0.out, if_pos (by rw [← HM.out, ← HN.out]; exact hmn), ← HM.out])
        have bmn : ((m : Int) == (n : Int)) = true := by rw [beq_iff_eq]; omega
        clear HR0 hmn
        go_wp2_with (first | (go_at_call 25; fail))
        refine (HRUN.out w1).mono ?_
        rintro e w2 ⟨v2, rfl, hI2, hb2⟩
        obtain ⟨x2, c2, rfl⟩ := hI2.is
        have HZ2 := Lib.hid (HZ1.out.below hb2)
        have HB2 := Lib.hid (HB1.out.trans (below_le hb2 HB1.out.size))
        have HI2 := Lib.hid (hI2.mono HB1.out.size)
        have HPZ := Lib.hid (fnd_put (r := 0) (g := 0) HZ2.out (by decide) HI2.out HB2.out)
        obtain ⟨e0, e1, e2, f0, f1, f2⟩ := HZ2.out.cells
        unfold put3 at HPZ
        rw [runN_len] at HPZ ⊢
        clear hI2 hb2 HRUN HI2
        go_wp2
        refine bodyPost_ret (results_cell_tmp rfl _ _ w.heap.size 32 _ _ _ rfl HPZ.out.1 Try.underlying32 rfl (by kernel_rfl)) rfl ?_
        rw [HR.out]
        exact ⟨_, rfl, HPZ.out.2.1, HPZ.out.2.2⟩
      · have HR : Hid (fndS o wd = some ⟨1, 0, runN 0 m⟩) := Lib.hid (by rw [HR0.out, if_neg (by rw [← HM.out, ← HN.out]; exact hmn), ← HM.out])
        have bmn : ((m : Int) == (n : Int)) = false := by rw [beq_eq_false_iff_ne]; omega
        clear HR0 hmn
        go_wp2_with (first | (go_at_call 25; fail))
        refine (HRUN.out w1).mono ?_
        rintro e w2 ⟨v2, rfl, hI2, hb2⟩
        obtain ⟨x2, c2, rfl⟩ := hI2.is
        have HZ2 := Lib.hid (HZ1.out.below hb2)
        have HB2 := Lib.hid (HB1.out.trans (below_le hb2 HB1.out.size))
        have HI2 := Lib.hid (hI2.mono HB1.out.size)
        have HPZ := Lib.hid (fnd_put (r := 1) (g := 0) HZ2.out (by decide) HI2.out HB2.out)
        obtain ⟨e0, e1, e2, f0, f1, f2⟩ := HZ2.out.cells
        unfold put3 at HPZ
        rw [runN_len] at HPZ ⊢
        clear hI2 hb2 HRUN HI2
        go_wp2
        refine bodyPost_ret (results_cell_tmp rfl _ _ w.heap.size 32 _ _ _ rfl HPZ.out.1 Try.underlying32 rfl (by kernel_rfl)) rfl ?_
        rw [HR.out]
        exact ⟨_, rfl, HPZ.out.2.1, HPZ.out.2.2⟩
    · have hpz : ((p : Int) == 0) = false := by rw [beq_eq_false_iff_ne]; omega
      go_wp2
      go_loopw [38] (fun iv wr => ∃ j : Nat, iv = .int .i64 (j : Int) ∧ j ≤ k ∧ Hid (∀ q, q < j → ltr (o.getD ((besS o wd).getD q 0 - 1) []) = true) ∧ w1 = wr) (fun iv _ => k - (intOf iv).toNat)
      case atStart => exact ⟨0, rfl, Nat.zero_le _, Lib.hid (fun q h => by omega), rfl⟩
      case round =>
        obtain ⟨j, rfl, hj, HQ, rfl⟩ := hrel
        have i1 : (0 : Int) ≤ (j : Int) := by omega
        by_cases hlt : j < k
        · have i2 : (j : Int) < (k : Int) := by omega
          have hjl : j < (besS o wd).length := by have := HK.out; omega
          have cj := HGB.out j hjl
          have hmem := HME.out ((besS o wd).getD j 0) (by rw [List.getD_eq_getElem?_getD, List.getElem?_eq_getElem hjl]; exact List.getElem_mem _)
          have hsp := inc_span HIN.out j hjl
          obtain ⟨y, hy⟩ : ∃ y, (besS o wd).getD j 0 = y + 1 := ⟨(besS o wd).getD j 0 - 1, by have := HP.out; omega⟩
          have HY := Lib.hid hy
          rw [hy] at cj
          have hyn : y < n := by have := hmem.1; have := HN.out; omega
          obtain ⟨xo', co', hv', _, _, hg'⟩ := HOV.out w1 HB1.out
          obtain ⟨g, off, rfl, hg, hget⟩ := hg' (List.ne_nil_of_length_pos (by have := HN.out; omega))
          obtain ⟨rfl, rfl⟩ : xo = some ⟨g, off, none⟩ ∧ co = co' := by simpa using hv'
          have cy := hget y (by have := HN.out; omega)
          have HLT := Lib.hid (fun W => wletter (o.getD y []) (HON.out _ (by rw [List.getD_eq_getElem?_getD, List.getElem?_eq_getElem (by have := HN.out; omega)]; exact List.getElem_mem _)) W)
          generalize tx (o.getD y []) = U at cy HLT
          obtain ⟨b, hb⟩ : ∃ b, b = ltr (o.getD y []) := ⟨_, rfl⟩
          rw [← hb] at HLT
          have HBT := Lib.hid hb
          clear hb hv' hg' hget hmem hsp hy
          cases b
          · have HR : Hid (fndS o wd = some ⟨2, 0, runN (y + 1) m⟩) := Lib.hid (by
              have h := fnd_hit (o := o) (wd := wd) hjl (by rw [← HP.out]; exact hp0) (by rw [HY.out]; exact HBT.out.symm) HQ.out
              rw [h, HY.out, ← HM.out])
            have HRUN : Hid (∀ W, Calls Try.prog 25 #[.int .i64 ((y : Int) + 1), .int .i64 m] W fun e w' => ∃ v, e = .returned v ∧ IntO W.heap.size w' v (runN (y + 1) m) ∧ Below W.heap.size W w') := Lib.hid (fun W => wrun (y + 1) m (by omega) hm6 W)
            go_wp2_with (first | (go_at_call 26; refine (HLT.out _).mono ?_; rintro e w9 ⟨rfl, rfl⟩) | (go_at_call 25; fail))
            refine (HRUN.out w1).mono ?_
            rintro e w2 ⟨v2, rfl, hI2, hb2⟩
            obtain ⟨x2, c2, rfl⟩ := hI2.is
            have HZ2 := Lib.hid (HZ1.out.below hb2)
            have HB2 := Lib.hid (HB1.out.trans (below_le hb2 HB1.out.size))
            have HI2 := Lib.hid (hI2.mono HB1.out.size)
            have HPZ := Lib.hid (fnd_put (r := 2) (g := 0) HZ2.out (by decide) HI2.out HB2.out)
            obtain ⟨e0, e1, e2, f0, f1, f2⟩ := HZ2.out.cells
            unfold put3 at HPZ
            rw [runN_len] at HPZ ⊢
            clear hI2 hb2 HRUN HI2
            go_wp2
            refine bodyPost_ret (results_cell_tmp rfl _ _ w.heap.size 32 _ _ _ rfl HPZ.out.1 Try.underlying32 rfl (by kernel_rfl)) rfl ?_
            rw [HR.out]
            exact ⟨_, rfl, HPZ.out.2.1, HPZ.out.2.2⟩
          · go_wp2_with (first | (go_at_call 26; refine (HLT.out _).mono ?_; rintro e w9 ⟨rfl, rfl⟩))
            go_roundw
            case rel => exact ⟨j + 1, by go_num, by omega, Lib.hid (fun q h => by
              by_cases e : q = j
              · rw [e, HY.out]; exact HBT.out.symm
              · exact HQ.out q (by omega)), by trivial⟩
            case measure => simp [intOf] <;> omega
        · have HR : Hid (fndS o wd = some ⟨3, 0, runN p m⟩) := Lib.hid (by
            have h := fnd_last (o := o) (wd := wd) (by have := HK.out; omega) (by rw [← HP.out]; exact hp0) (fun q hq => HQ.out q (by have := HK.out; omega))
            rw [h, ← HP.out, ← HM.out])
          have HRUN : Hid (∀ W, Calls Try.prog 25 #[.int .i64 p, .int .i64 m] W fun e w' => ∃ v, e = .returned v ∧ IntO W.heap.size w' v (runN p m) ∧ Below W.heap.size W w') := Lib.hid (fun W => wrun p m hp6 hm6 W)
          go_wp2_with (first | (go_at_call 25; fail))
          refine (HRUN.out w1).mono ?_
          rintro e w2 ⟨v2, rfl, hI2, hb2⟩
          obtain ⟨x2, c2, rfl⟩ := hI2.is
          have HZ2 := Lib.hid (HZ1.out.below hb2)
          have HB2 := Lib.hid (HB1.out.trans (below_le hb2 HB1.out.size))
          have HI2 := Lib.hid (hI2.mono HB1.out.size)
          have HPZ := Lib.hid (fnd_put (r := 3) (g := 0) HZ2.out (by decide) HI2.out HB2.out)
          obtain ⟨e0, e1, e2, f0, f1, f2⟩ := HZ2.out.cells
          unfold put3 at HPZ
          rw [runN_len] at HPZ ⊢
          clear hI2 hb2 HRUN HI2
          go_wp2
          refine bodyPost_ret (results_cell_tmp rfl _ _ w.heap.size 32 _ _ _ rfl HPZ.out.1 Try.underlying32 rfl (by kernel_rfl)) rfl ?_
          rw [HR.out]
          exact ⟨_, rfl, HPZ.out.2.1, HPZ.out.2.2⟩
end Go.Proofs.Ytdehjofmangmbaa
