/- Own texts, merged: FA. -/
import Derived.Test.YtdehjofmangmbaaGreatMS30
/- Walks: chain, inOrder. -/
namespace Go.Proofs.YtdehjofmangmbaaGreat
open Go.RowKit Go.Shelf
theorem grd_hit {f j : Nat} {o r : List Bs} {c : Bs} (hj : j < o.length) (h : o.getD j [] = c) : grd (f + 1) o (c :: r) j = j :: grd f o r (j + 1) := by
  rw [grd, if_pos hj, if_pos h]
theorem grd_miss {f j : Nat} {o r : List Bs} {c : Bs} (hj : j < o.length) (h : ¬ o.getD j [] = c) : grd (f + 1) o (c :: r) j = grd f o (c :: r) (j + 1) := by
  rw [grd, if_pos hj, if_neg h]
theorem grd_nil (f j : Nat) (o : List Bs) : grd f o [] j = [] := by cases f <;> rfl
theorem grd_end (f j : Nat) (o ws : List Bs) (h : ¬ j < o.length) : grd f o ws j = [] := by
  cases f with
  | zero => rfl
  | succ f =>
    cases ws with
    | nil => rfl
    | cons c r => unfold grd; rw [if_neg h]
/-- What chain's loop keeps: the places found so far, where it stands. -/
structure ChI (o wd : List Bs) (i : Nat) (l : List Nat) (j : Nat) : Prop where
  ij : i ≤ j
  jn : j ≤ o.length
  len : l.length ≤ wd.length
  gr : l ++ grd (o.length + 1 - (j - i)) o (wd.drop l.length) j = grd (o.length + 1) o wd i
  first : l = [] ∧ j = i ∨ l ≠ [] ∧ o.getD i [] = wd.getD 0 []
theorem ChI.start {o wd : List Bs} {i : Nat} (hi : i ≤ o.length) : ChI o wd i [] i := ⟨Nat.le_refl _, hi, Nat.zero_le _, by simp, .inl ⟨rfl, rfl⟩⟩
theorem drop_one {wd : List Bs} {k : Nat} (h : k < wd.length) : wd.drop k = wd.getD k [] :: wd.drop (k + 1) := by
  rw [List.drop_eq_getElem_cons h, List.getD_eq_getElem?_getD, List.getElem?_eq_getElem h]; rfl
theorem ChI.hit {o wd : List Bs} {i j : Nat} {l : List Nat} (h : ChI o wd i l j) (hj : j < o.length) (hl : l.length < wd.length) (he : o.getD j [] = wd.getD l.length []) : ChI o wd i (l ++ [j]) (j + 1) := by
  refine ⟨by have := h.ij; omega, by omega, by simp; omega, ?_, ?_⟩
  · have hg := h.gr
    have h1 := h.ij
    rw [drop_one hl, show o.length + 1 - (j - i) = (o.length + 1 - (j + 1 - i)) + 1 by omega, grd_hit hj he] at hg
    rw [← hg]
    simp
  · rcases h.first with ⟨rfl, rfl⟩ | q
    · exact .inr ⟨by simp, he⟩
    · exact .inr ⟨by simp, q.2⟩
theorem ChI.miss {o wd : List Bs} {i j : Nat} {l : List Nat} (h : ChI o wd i l j) (hj : j < o.length) (hl : l.length < wd.length) (he : ¬ o.getD j [] = wd.getD l.length []) (h0 : l ≠ []) : ChI o wd i l (j + 1) := by
  refine ⟨by have := h.ij; omega, by omega, h.len, ?_, .inr ⟨h0, (h.first.resolve_left (fun q => h0 q.1)).2⟩⟩
  have hg := h.gr
  have h1 := h.ij
  rw [drop_one hl, show o.length + 1 - (j - i) = (o.length + 1 - (j + 1 - i)) + 1 by omega, grd_miss hj he, ← drop_one hl] at hg
  exact hg
theorem ChI.full {o wd : List Bs} {i j : Nat} {l : List Nat} (h : ChI o wd i l j) (hl : l.length = wd.length) (hw : wd ≠ []) : chnS o wd i = some l := by
  have hg := h.gr
  rw [hl, List.drop_length, grd_nil, List.append_nil] at hg
  have h0 : o.getD i [] = wd.getD 0 [] := by
    rcases h.first with ⟨rfl, _⟩ | q
    · exact absurd (List.length_eq_zero_iff.1 hl.symm) hw
    · exact q.2
  unfold chnS
  rw [← hg, if_pos ⟨h0, hl⟩]
theorem ChI.ne {o wd : List Bs} {i j : Nat} {l : List Nat} (h : ChI o wd i l j) (h0 : o.getD i [] = wd.getD 0 []) (he : ¬ o.getD j [] = wd.getD l.length []) : l ≠ [] := fun e => by
  subst e
  rcases h.first with ⟨_, q⟩ | ⟨q, _⟩
  · exact he (by rw [q]; exact h0)
  · exact q rfl
theorem ChI.short {o wd : List Bs} {i j : Nat} {l : List Nat} (h : ChI o wd i l j) (hl : ¬ l.length = wd.length) (hj : ¬ j < o.length) : chnS o wd i = none := by
  have hg := h.gr
  rw [grd_end _ _ _ _ hj, List.append_nil] at hg
  unfold chnS
  rw [← hg, if_neg (fun q => hl q.2)]
theorem chn_no {o wd : List Bs} {i : Nat} (h : ¬ o.getD i [] = wd.getD 0 []) : chnS o wd i = none := by unfold chnS; rw [if_neg (fun q => h q.1)]
theorem tx_eq {a b : Bs} {X Y : ByteArray} (hX : X = tx a) (hY : Y = tx b) (h : ¬ a = b) : (X.toList == Y.toList) = false := by
  rw [beq_bytes, decide_eq_false (fun e => h (by have := congrArg (·.data.toList) (hX.symm.trans (e.trans hY)); simpa [tx] using this))]
def ChEnd (o wd : List Bs) (i : Nat) (w : World) (e : Ending) (w' : World) : Prop := ∃ x n c b, e = .returned (.tuple #[.slice x n c, .bool b]) ∧ (match chnS o wd i with | none => b = false | some l => b = true ∧ IntO w.heap.size w' (.slice x n c) l) ∧ Below w.heap.size w w'
theorem ChEnd.no {o wd : List Bs} {i : Nat} {w w' : World} {x : Option Addr} {n c : Nat} (h : chnS o wd i = none) (hB : Below w.heap.size w w') : ChEnd o wd i w (.returned (.tuple #[.slice x n c, .bool false])) w' := ⟨x, n, c, false, rfl, by rw [h], hB⟩
theorem ChEnd.yes {o wd : List Bs} {i : Nat} {w w' : World} {x : Option Addr} {n c : Nat} {l : List Nat} (h : chnS o wd i = some l) (hI : IntO w.heap.size w' (.slice x n c) l) (hB : Below w.heap.size w w') : ChEnd o wd i w (.returned (.tuple #[.slice x n c, .bool true])) w' := ⟨x, n, c, true, rfl, by rw [h]; exact ⟨rfl, hI⟩, hB⟩
set_option maxRecDepth 100000 in
set_option maxHeartbeats 2000000 in
theorem wchain (vo vw : Value) (o wd : List Bs) (i : Nat) (hi : i < o.length) (hw : wd ≠ []) (w : World) (h1 : TxV w vo o) (h2 : TxV w vw wd) : Calls Tryz.prog 75 #[vo, vw, .int .i64 (i : Int)] w (ChEnd o wd i w) := by
  obtain ⟨xo, co, rfl, _, hn6, hgo⟩ := h1.old
  obtain ⟨xw, cw, rfl, _, hm6, hgw⟩ := h2.old
  obtain ⟨g, off, rfl, hg, hget⟩ := hgo (List.ne_nil_of_length_pos (by omega))
  obtain ⟨g2, off2, rfl, hg2, hget2⟩ := hgw hw
  have hwp := List.length_pos_iff.2 hw
  have HW := Lib.hid hw
  have HO := Lib.hid (And.intro hg hget)
  have HD := Lib.hid (And.intro hg2 hget2)
  obtain ⟨n, hn⟩ : ∃ n, n = o.length := ⟨_, rfl⟩
  have HN := Lib.hid hn
  obtain ⟨m, hm⟩ : ∃ m, m = wd.length := ⟨_, rfl⟩
  have HM := Lib.hid hm
  obtain ⟨i3, hi1, hi0, hi2, hi3⟩ := info_parts3
  have HP := Lib.hid (And.intro hi1 (And.intro hi0 (And.intro hi2 hi3)))
  have HST := Lib.hid (ChI.start (wd := wd) (Nat.le_of_lt hi))
  rw [← hn] at hn6 hi ⊢
  rw [← hm] at hm6 hwp ⊢
  clear h1 h2 hgo hgw hget hg hget2 hg2 hn hm hw hi0 hi1 hi2 hi3
  have HB0 : Hid (Below w.heap.size w w) := Lib.hid (Below.refl _ _)
  go_enter Tryz.func75, Tryz.ntmps75
  go_wp2
  go_loopw [8, 9] (fun v iv wr => ∃ (j : Nat) (l : List Nat), iv = .int .i64 (j : Int) ∧ j ≤ n ∧ Hid (ChI o wd i l j) ∧ Hid (IntO w.heap.size wr v l) ∧ Hid (Below w.heap.size w wr)) (fun _ iv _ => n - (intOf iv).toNat)
  case atStart => exact ⟨i, [], rfl, by omega, HST, Lib.hid (IntO.nil _ _), HB0⟩
  case round =>
    clear HB0 HST
    obtain ⟨j, l, rfl, hj, HC, HI, HB⟩ := hrel
    obtain ⟨xv, cv, hxv⟩ := HI.out.is
    subst hxv
    have i1 : (0 : Int) ≤ (j : Int) := by omega
    obtain ⟨k, hk⟩ : ∃ k, k = l.length := ⟨_, rfl⟩
    have HK := Lib.hid hk
    have hkm : k ≤ m := by have := HC.out.len; have := HM.out; omega
    have hbs := HB.out.size
    rw [← hk] at HI ⊢
    clear hk
    by_cases hlt : j < n
    · have i2 : (j : Int) < (n : Int) := by omega
      by_cases hkl : k < m
      · have i4 : (k : Int) < (m : Int) := by omega
        have ca : wr.cell? ⟨g, off + j, none⟩ = some (.string (tx (o.getD j []))) := (HB.out.cell (p := ⟨g, off + j, none⟩) HO.out.1).trans (HO.out.2 j (by have := HN.out; omega))
        have cb : wr.cell? ⟨g2, off2 + k, none⟩ = some (.string (tx (wd.getD k []))) := (HB.out.cell (p := ⟨g2, off2 + k, none⟩) HD.out.1).trans (HD.out.2 k (by have := HM.out; omega))
        obtain ⟨X, hX⟩ : ∃ X, X = tx (o.getD j []) := ⟨_, rfl⟩
        obtain ⟨Y, hY⟩ : ∃ X, X = tx (wd.getD k []) := ⟨_, rfl⟩
        rw [← hX] at ca
        rw [← hY] at cb
        by_cases he : o.getD j [] = wd.getD k []
        · have hxy : X = Y := by rw [hX, hY, he]
          subst hxy
          have HNX := Lib.hid (HC.out.hit (by have := HN.out; omega) (by have := HK.out; have := HM.out; omega) (by rw [← HK.out]; exact he))
          clear hX hY he
          go_wp2
          go_quiet (fail)
          have HI3 : Hid ((wr.drewN nq).ownsRow w.heap.size 3 1 (.slice xv k cv) k (ints l)) := Lib.hid (by have h := HI.out; unfold IntO at h; rw [← HK.out] at h; exact h)
          have HB3 : Hid (Below w.heap.size w (wr.drewN nq)) := Lib.hid (below_drewN HB.out _)
          clear ca cb HI
          go_wp2_with (at_builtin; go_loud (refine wpList_append_own _ rfl _ _ 30 rfl w.heap.size 3 i3 (.int .i64 0) 1 8 Tryz.underlying30 HP.out.1 HP.out.2.1 HP.out.2.2.1 HP.out.2.2.2 rfl (by decide) _ _ _ rfl (HI3.out.alloc _) ⟨(wr.drewN nq).heap.size, 0, none⟩ 1 1 [.int .i64 (j : Int)] rfl rfl (cell_one_new _ _ _) (by simp [Value.oneCell']) (by unfold maxLen; omega) (by omega) (by simp; omega) ?_))
          intro v' w4 ho hg4 _
          have HI4 : Hid (IntO w.heap.size w4 v' (l ++ [j])) := Lib.hid (by unfold IntO; rw [ints_app, List.length_append, ← HK.out]; exact ho)
          have HB4 : Hid (Below w.heap.size w w4) := Lib.hid ((HB3.out.alloc HB3.out.size _).grown hg4 (by simp; omega) (fun k e => (HI3.out.lt k e).1))
          clear ho hg4
          go_wp2
          go_roundw
          case rel => exact ⟨j + 1, l ++ [j], by go_num, by omega, HNX, HI4, HB4⟩
          case measure => simp [intOf] <;> omega
        · have hxy := tx_eq hX hY he
          have HE := Lib.hid he
          clear hX hY he
          by_cases hk0 : k = 0
          · subst hk0
            have HR : Hid (chnS o wd i = none) := Lib.hid (by
              have hl : l = [] := List.length_eq_zero_iff.1 HK.out.symm
              rcases HC.out.first with ⟨_, e⟩ | q
              · exact chn_no (by rw [← e]; exact HE.out)
              · exact absurd hl q.1)
            have cb0 : wr.cell? ⟨g2, off2, none⟩ = some (.string Y) := by simpa using cb
            go_wp2
            go_quiet (fail)
            go_wp2
            go_ret2
            exact ChEnd.no HR.out (below_drewN HB.out _)
          · have i6 : ((k : Int) == 0) = false := by rw [beq_eq_false_iff_ne]; omega
            have HNX := Lib.hid (HC.out.miss (by have := HN.out; omega) (by have := HK.out; have := HM.out; omega) (by rw [← HK.out]; exact HE.out) (fun e => hk0 (by rw [HK.out, e]; rfl)))
            go_wp2
            go_quiet (fail)
            go_wp2
            go_roundw
            case rel => exact ⟨j + 1, l, by go_num, by omega, HNX, Lib.hid HI.out, Lib.hid (below_drewN HB.out _)⟩
            case measure => simp [intOf] <;> omega
      · have i4 : ¬ (k : Int) < (m : Int) := by omega
        obtain rfl : k = m := by omega
        have HR := Lib.hid (HC.out.full (by rw [← HK.out, ← HM.out]) HW.out)
        go_wp2
        go_ret2
        exact ChEnd.yes HR.out HI.out HB.out
    · have i2 : ¬ (j : Int) < (n : Int) := by omega
      by_cases hkl : k = m
      · subst hkl
        have HR := Lib.hid (HC.out.full (by rw [← HK.out, ← HM.out]) HW.out)
        go_wp2
        go_ret2
        exact ChEnd.yes HR.out HI.out HB.out
      · have i5 : ((k : Int) == (m : Int)) = false := by rw [beq_eq_false_iff_ne]; omega
        have HR := Lib.hid (HC.out.short (by have := HK.out; have := HM.out; omega) (by have := HN.out; omega))
        go_wp2
        go_ret2
        exact ChEnd.no HR.out HB.out
set_option maxRecDepth 100000 in
set_option maxHeartbeats 2000000 in
theorem rinOrder (vo vw : Value) (o wd : List Bs) (i : Nat) (hi : i < o.length) (hw : wd ≠ []) (w : World) (h1 : TxV w vo o) (h2 : TxV w vw wd) : Calls Tryz.prog 80 #[vo, vw, .int .i64 (i : Int)] w (ChEnd o wd i w) := by
  obtain ⟨xo, co, rfl, _, hn6, hgo⟩ := h1.old
  obtain ⟨xw, cw, rfl, _, hm6, hgw⟩ := h2.old
  obtain ⟨g, off, rfl, hg, hget⟩ := hgo (List.ne_nil_of_length_pos (by omega))
  obtain ⟨g2, off2, rfl, hg2, hget2⟩ := hgw hw
  have hwp := List.length_pos_iff.2 hw
  have HW := Lib.hid hw
  have HO := Lib.hid (And.intro hg hget)
  have HD := Lib.hid (And.intro hg2 hget2)
  obtain ⟨n, hn⟩ : ∃ n, n = o.length := ⟨_, rfl⟩
  have HN := Lib.hid hn
  obtain ⟨m, hm⟩ : ∃ m, m = wd.length := ⟨_, rfl⟩
  have HM := Lib.hid hm
  obtain ⟨i3, hi1, hi0, hi2, hi3⟩ := info_parts3
  have HP := Lib.hid (And.intro hi1 (And.intro hi0 (And.intro hi2 hi3)))
  have HST := Lib.hid (ChI.start (wd := wd) (Nat.le_of_lt hi))
  rw [← hn] at hn6 hi ⊢
  rw [← hm] at hm6 hwp ⊢
  clear h1 h2 hgo hgw hget hg hget2 hg2 hn hm hw hi0 hi1 hi2 hi3
  have ca : w.cell? ⟨g, off + i, none⟩ = some (.string (tx (o.getD i []))) := HO.out.2 i (by have := HN.out; omega)
  have cb : w.cell? ⟨g2, off2, none⟩ = some (.string (tx (wd.getD 0 []))) := by have := HD.out.2 0 (by have := HM.out; omega); simpa using this
  obtain ⟨X0, hX0⟩ : ∃ X, X = tx (o.getD i []) := ⟨_, rfl⟩
  obtain ⟨Y0, hY0⟩ : ∃ X, X = tx (wd.getD 0 []) := ⟨_, rfl⟩
  rw [← hX0] at ca
  rw [← hY0] at cb
  by_cases h0 : ¬ o.getD i [] = wd.getD 0 []
  · have hxy := tx_eq hX0 hY0 h0
    have HNO := Lib.hid (chn_no h0)
    clear hX0 hY0 h0
    go_enter Tryz.func80, Tryz.ntmps80
    go_wp2
    go_quiet (fail)
    go_wp2
    go_ret2
    exact ChEnd.no HNO.out (below_drewN (Below.refl _ _) _)
  have h0 := Decidable.not_not.1 h0
  have hxy : X0 = Y0 := by rw [hX0, hY0, h0]
  subst hxy
  have H0 := Lib.hid h0
  clear hX0 hY0 h0
  go_enter Tryz.func80, Tryz.ntmps80
  go_wp2
  go_quiet (fail)
  generalize hwd : w.drewN nq = wd0
  have HB0 : Hid (Below w.heap.size w wd0) := Lib.hid (by rw [← hwd]; exact below_drewN (Below.refl _ _) _)
  clear hwd
  go_wp2
  go_loopw [8, 9] (fun v iv wr => ∃ (j : Nat) (l : List Nat), iv = .int .i64 (j : Int) ∧ j ≤ n ∧ Hid (ChI o wd i l j) ∧ Hid (IntO w.heap.size wr v l) ∧ Hid (Below w.heap.size w wr)) (fun _ iv _ => n - (intOf iv).toNat)
  case atStart => exact ⟨i, [], rfl, by omega, HST, Lib.hid (IntO.nil _ _), HB0⟩
  case round =>
    clear HB0 HST
    obtain ⟨j, l, rfl, hj, HC, HI, HB⟩ := hrel
    obtain ⟨xv, cv, hxv⟩ := HI.out.is
    subst hxv
    have i1 : (0 : Int) ≤ (j : Int) := by omega
    obtain ⟨k, hk⟩ : ∃ k, k = l.length := ⟨_, rfl⟩
    have HK := Lib.hid hk
    have hkm : k ≤ m := by have := HC.out.len; have := HM.out; omega
    have hbs := HB.out.size
    rw [← hk] at HI ⊢
    clear hk
    by_cases hlt : j < n
    · have i2 : (j : Int) < (n : Int) := by omega
      by_cases hkl : k < m
      · have i4 : (k : Int) < (m : Int) := by omega
        have ca : wr.cell? ⟨g, off + j, none⟩ = some (.string (tx (o.getD j []))) := (HB.out.cell (p := ⟨g, off + j, none⟩) HO.out.1).trans (HO.out.2 j (by have := HN.out; omega))
        have cb : wr.cell? ⟨g2, off2 + k, none⟩ = some (.string (tx (wd.getD k []))) := (HB.out.cell (p := ⟨g2, off2 + k, none⟩) HD.out.1).trans (HD.out.2 k (by have := HM.out; omega))
        obtain ⟨X, hX⟩ : ∃ X, X = tx (o.getD j []) := ⟨_, rfl⟩
        obtain ⟨Y, hY⟩ : ∃ X, X = tx (wd.getD k []) := ⟨_, rfl⟩
        rw [← hX] at ca
        rw [← hY] at cb
        by_cases he : o.getD j [] = wd.getD k []
        · have hxy : X = Y := by rw [hX, hY, he]
          subst hxy
          have HNX := Lib.hid (HC.out.hit (by have := HN.out; omega) (by have := HK.out; have := HM.out; omega) (by rw [← HK.out]; exact he))
          clear hX hY he
          go_wp2
          go_quiet (fail)
          have HI3 : Hid ((wr.drewN nq).ownsRow w.heap.size 3 1 (.slice xv k cv) k (ints l)) := Lib.hid (by have h := HI.out; unfold IntO at h; rw [← HK.out] at h; exact h)
          have HB3 : Hid (Below w.heap.size w (wr.drewN nq)) := Lib.hid (below_drewN HB.out _)
          clear ca cb HI
          go_wp2_with (at_builtin; go_loud (refine wpList_append_own _ rfl _ _ 30 rfl w.heap.size 3 i3 (.int .i64 0) 1 8 Tryz.underlying30 HP.out.1 HP.out.2.1 HP.out.2.2.1 HP.out.2.2.2 rfl (by decide) _ _ _ rfl (HI3.out.alloc _) ⟨(wr.drewN nq).heap.size, 0, none⟩ 1 1 [.int .i64 (j : Int)] rfl rfl (cell_one_new _ _ _) (by simp [Value.oneCell']) (by unfold maxLen; omega) (by omega) (by simp; omega) ?_))
          intro v' w4 ho hg4 _
          have HI4 : Hid (IntO w.heap.size w4 v' (l ++ [j])) := Lib.hid (by unfold IntO; rw [ints_app, List.length_append, ← HK.out]; exact ho)
          have HB4 : Hid (Below w.heap.size w w4) := Lib.hid ((HB3.out.alloc HB3.out.size _).grown hg4 (by simp; omega) (fun k e => (HI3.out.lt k e).1))
          clear ho hg4
          go_wp2
          go_roundw
          case rel => exact ⟨j + 1, l ++ [j], by go_num, by omega, HNX, HI4, HB4⟩
          case measure => simp [intOf] <;> omega
        · have hxy := tx_eq hX hY he
          have HE := Lib.hid he
          clear hX hY he
          have HNX := Lib.hid (HC.out.miss (by have := HN.out; omega) (by have := HK.out; have := HM.out; omega) (by rw [← HK.out]; exact HE.out) (HC.out.ne H0.out (by rw [← HK.out]; exact HE.out)))
          go_wp2
          go_quiet (fail)
          go_wp2
          go_roundw
          case rel => exact ⟨j + 1, l, by go_num, by omega, HNX, Lib.hid HI.out, Lib.hid (below_drewN HB.out _)⟩
          case measure => simp [intOf] <;> omega
      · have i4 : ¬ (k : Int) < (m : Int) := by omega
        obtain rfl : k = m := by omega
        have HR := Lib.hid (HC.out.full (by rw [← HK.out, ← HM.out]) HW.out)
        go_wp2
        go_ret2
        exact ChEnd.yes HR.out HI.out HB.out
    · have i2 : ¬ (j : Int) < (n : Int) := by omega
      by_cases hkl : k = m
      · subst hkl
        have HR := Lib.hid (HC.out.full (by rw [← HK.out, ← HM.out]) HW.out)
        go_wp2
        go_ret2
        exact ChEnd.yes HR.out HI.out HB.out
      · have i5 : ((k : Int) == (m : Int)) = false := by rw [beq_eq_false_iff_ne]; omega
        have HR := Lib.hid (HC.out.short (by have := HK.out; have := HM.out; omega) (by have := HN.out; omega))
        go_wp2
        go_ret2
        exact ChEnd.no HR.out HB.out
end Go.Proofs.YtdehjofmangmbaaGreat
