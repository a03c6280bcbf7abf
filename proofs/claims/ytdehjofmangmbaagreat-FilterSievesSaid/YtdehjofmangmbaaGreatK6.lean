/- Walk: Runes of the reference. -/
import Derived.Test.YtdehjofmangmbaaGreatK5
namespace Go.Proofs.YtdehjofmangmbaaGreat
open Go.RowKit Go.Shelf
theorem info_parts21 : ∃ i0, Tryz.prog.info? 21 = some i0 ∧ i0.zero = some (.int .i32 0) ∧ i0.size = 1 ∧ i0.bytes = 4 :=
  info_parts (show (Tryz.prog.info? 21).map (fun i => (i.zero, i.size, i.bytes)) = some (some (.int .i32 0), 1, 4) by kernel_rfl)
theorem info_parts3 : ∃ i0, Tryz.prog.info? 3 = some i0 ∧ i0.zero = some (.int .i64 0) ∧ i0.size = 1 ∧ i0.bytes = 8 :=
  info_parts (show (Tryz.prog.info? 3).map (fun i => (i.zero, i.size, i.bytes)) = some (some (.int .i64 0), 1, 8) by kernel_rfl)
def runV (xs : List (Nat × Int)) : List Value := xs.map fun x => .int .i32 x.2
def plcV (xs : List (Nat × Int)) : List Value := xs.map fun x => .int .i64 (x.1 : Nat)
/-- What Runes' loop keeps. -/
structure RnI (w : World) (xs : List (Nat × Int)) (v4 v5 : Value) (W : World) : Prop where
  r4 : W.ownsRow w.heap.size 21 1 v4 xs.length (runV xs)
  r5 : W.ownsRow w.heap.size 3 1 v5 xs.length (plcV xs)
  bel : Below w.heap.size w W
theorem own_cells {w : World} {n0 : Nat} {e : TypeId} {z n : Nat} {v : Value} {xs : List Value} (h : w.ownsRow n0 e z v n xs) : ∀ j, v.ownBlock = some j → ∃ cur, w.heap[j]? = some (.cells cur e (0, 0)) := fun j hj => by
  rcases h.2 with ⟨hv, _⟩ | ⟨g, cap, cur, hv, _, hg, _⟩
  · rw [hv] at hj; cases hj
  · rw [hv] at hj; cases hj; exact ⟨cur, hg⟩
theorem own_apart {w : World} {n0 n0' : Nat} {e e' : TypeId} {z n z' n' : Nat} {v v' : Value} {xs xs' : List Value} (h : w.ownsRow n0 e z v n xs) (h' : w.ownsRow n0' e' z' v' n' xs') (hne : e ≠ e') : ∀ j, v.ownBlock = some j → v'.ownBlock = some j → False := fun j a b => by
  obtain ⟨c, hc⟩ := own_cells h j a
  obtain ⟨c', hc'⟩ := own_cells h' j b
  rw [hc] at hc'
  cases hc'
  exact hne rfl
theorem own_kept {w w' : World} {n0 : Nat} {e : TypeId} {z n : Nat} {v : Value} {xs : List Value} {row : Option Nat} (h : w.ownsRow n0 e z v n xs) (hg : w.grownBy w' row) (hne : ∀ j, row = some j → v.ownBlock = some j → False) : w'.ownsRow n0 e z v n xs :=
  row_kept h (fun j hj => hg.block j (h.lt j hj).2 (fun e => hne j e.symm hj))
theorem RnI.below {w : World} {xs : List (Nat × Int)} {v4 v5 : Value} {W W' : World} (h : RnI w xs v4 v5 W) (hb : Below W.heap.size W W') : RnI w xs v4 v5 W' :=
  ⟨row_kept h.r4 (fun j hj => hb.block j (h.r4.lt j hj).2), row_kept h.r5 (fun j hj => hb.block j (h.r5.lt j hj).2), h.bel.trans (below_le hb h.bel.size)⟩
structure RnI1 (w : World) (xs : List (Nat × Int)) (x : Nat × Int) (v4 v5 : Value) (W : World) : Prop where
  r4 : W.ownsRow w.heap.size 21 1 v4 (xs.length + 1) (runV (xs ++ [x]))
  r5 : W.ownsRow w.heap.size 3 1 v5 xs.length (plcV xs)
  bel : Below w.heap.size w W
theorem rn_app1 {w W w1 : World} {xs : List (Nat × Int)} {x : Nat × Int} {v4 v5 v' : Value} {o : Obj} (h : RnI w xs v4 v5 W) (ho : w1.ownsRow w.heap.size 21 1 v' (xs.length + 1) (runV xs ++ [.int .i32 x.2])) (hg : (W.alloc o).grownBy w1 v4.ownBlock) : RnI1 w xs x v' v5 w1 := by
  have h4 : (W.alloc o).ownsRow w.heap.size 21 1 v4 xs.length (runV xs) := row_kept h.r4 (fun j hj => Below.heap_alloc _ _ _ (h.r4.lt j hj).2)
  have h5 : (W.alloc o).ownsRow w.heap.size 3 1 v5 xs.length (plcV xs) := row_kept h.r5 (fun j hj => Below.heap_alloc _ _ _ (h.r5.lt j hj).2)
  refine ⟨?_, own_kept h5 hg (own_apart h4 h5 (by decide)), (h.bel.alloc h.bel.size o).grown hg (by have := h.bel.size; simp; omega) (fun j hj => (h.r4.lt j hj).1)⟩
  simpa [runV] using ho
theorem rn_app2 {w W w1 : World} {xs : List (Nat × Int)} {x : Nat × Int} {v4 v5 v' : Value} {o : Obj} (h : RnI1 w xs x v4 v5 W) (ho : w1.ownsRow w.heap.size 3 1 v' (xs.length + 1) (plcV xs ++ [.int .i64 (x.1 : Nat)])) (hg : (W.alloc o).grownBy w1 v5.ownBlock) : RnI w (xs ++ [x]) v4 v' w1 := by
  have h4 : (W.alloc o).ownsRow w.heap.size 21 1 v4 (xs.length + 1) (runV (xs ++ [x])) := row_kept h.r4 (fun j hj => Below.heap_alloc _ _ _ (h.r4.lt j hj).2)
  have h5 : (W.alloc o).ownsRow w.heap.size 3 1 v5 xs.length (plcV xs) := row_kept h.r5 (fun j hj => Below.heap_alloc _ _ _ (h.r5.lt j hj).2)
  refine ⟨?_, ?_, (h.bel.alloc h.bel.size o).grown hg (by have := h.bel.size; simp; omega) (fun j hj => (h.r5.lt j hj).1)⟩
  · rw [List.length_append, List.length_singleton]
    exact own_kept h4 hg (own_apart h5 h4 (by decide))
  · rw [List.length_append, List.length_singleton]
    simpa [plcV] using ho
def RunesEnd (l : Bs) (w : World) (e : Ending) (w' : World) : Prop := ∃ v4 v5, e = .returned (.tuple #[v4, v5]) ∧ RnI w (itm l) v4 v5 w'
set_option maxRecDepth 100000 in
set_option maxHeartbeats 4000000 in
theorem rrunes (b off cap : Nat) (l : Bs) (hl : l.length ≤ cap) (hl2 : l.length ≤ 1000000) (w : World) (h : BytesAt w b off l) (hbl : b < w.heap.size) : Calls Tryz.prog 42 #[.slice (some ⟨b, off, none⟩) l.length cap] w (RunesEnd l w) := by
  obtain ⟨i21, p1, p2, p3, p4⟩ := info_parts21
  obtain ⟨ti3, q1, q2, q3, q4⟩ := info_parts3
  have HP := Lib.hid (And.intro p1 (And.intro p2 (And.intro p3 p4)))
  have HQ := Lib.hid (And.intro q1 (And.intro q2 (And.intro q3 q4)))
  have HB := Lib.hid (And.intro h hbl)
  obtain ⟨n, hn⟩ : ∃ n, n = l.length := ⟨_, rfl⟩
  have HN := Lib.hid hn
  rw [← hn] at hl hl2 ⊢
  clear h hbl hn p1 p2 p3 p4 q1 q2 q3 q4
  go_enter Tryz.func42, Tryz.ntmps42
  go_wp2
  go_loopw [4, 5, 6] (fun v4 v5 i wr => ∃ (pre : List (Nat × Int)) (a f : Nat), i = .int .i64 (a : Int) ∧ a ≤ n ∧ n - a ≤ f ∧ pre.length ≤ a ∧ Hid (itm l = pre ++ itmN f a (l.drop a)) ∧ Hid (RnI w pre v4 v5 wr)) (fun _ _ i _ => n - (intOf i).toNat)
  case atStart => exact ⟨[], 0, n, rfl, by omega, by omega, by simp, Lib.hid (by rw [HN.out]; rfl), Lib.hid ⟨World.ownsRow_nil _ _ _ _, World.ownsRow_nil _ _ _ _, Below.refl _ _⟩⟩
  case round =>
    obtain ⟨pre, a, f, rfl, ha, hf, hpa, HI, HR⟩ := hrel
    obtain ⟨y4, d4, rfl⟩ := ownsRow_is HR.out.r4
    obtain ⟨y5, d5, rfl⟩ := ownsRow_is HR.out.r5
    have i1 : (0 : Int) ≤ (a : Int) := by omega
    by_cases hlt : a < n
    · have i2 : (a : Int) < (n : Int) := by omega
      have i3 : (a : Int) ≤ (n : Int) := by omega
      have i4 : (n : Int) ≤ (cap : Int) := by omega
      have hlen : (l.drop a).length = n - a := by have := HN.out; simp; omega
      have hne : l.drop a ≠ [] := fun e => by rw [e] at hlen; simp at hlen; omega
      obtain ⟨s1, s2⟩ := stp_n _ hne
      obtain ⟨f', rfl⟩ : ∃ f', f = f' + 1 := ⟨f - 1, by omega⟩
      have hit := HI.out
      rw [itmN_cons _ _ _ hne] at hit
      have hnx := rnext b (off + a) (cap - a) (l.drop a) (by omega) (by omega) (by omega) wr ((HB.out.1.drop a).kept HB.out.2 HR.out.bel) (by have := HR.out.bel.size; have := HB.out.2; omega)
      rw [nxt_eq _ hne, hlen] at hnx
      have HNX := Lib.hid hnx
      rw [hlen] at s2
      have HIT := Lib.hid hit
      have HSTP := Lib.hid (show stp (l.drop a) = if (nxt (l.drop a)).2.2 = true then (65533, 1) else ((nxt (l.drop a)).1, (nxt (l.drop a)).2.1) from rfl)
      obtain ⟨R, hR⟩ : ∃ R, R = nxt (l.drop a) := ⟨_, rfl⟩
      rw [← hR] at HNX HSTP
      obtain ⟨S, hS⟩ : ∃ S, S = stp (l.drop a) := ⟨_, rfl⟩
      rw [← hS] at HSTP s1 s2 HIT
      clear hnx hit hR hS hlen hne
      unfold NextEnd at HNX
      obtain ⟨r0, n0, m0⟩ := R
      obtain ⟨sr, sn⟩ := S
      simp only at HNX HSTP s1 s2 HIT
      have hS2 : (sr, sn) = if m0 = true then ((65533 : Int), 1) else (r0, n0) := HSTP.out
      clear HSTP
      have hL : pre.length ≤ 1000000 := by omega
      cases m0
      · obtain ⟨rfl, rfl⟩ : sr = r0 ∧ sn = n0 := by simpa using hS2
        clear hS2
        go_wp2_with (first | (go_at_call 63; fail))
        go_at_call 63
        refine HNX.out.mono ?_
        rintro e w2 ⟨rfl, hb2⟩
        have H2 := Lib.hid (HR.out.below hb2)
        clear hb2 HNX
        go_wp2_with (first | (at_builtin; refine wpList_append_own _ rfl _ _ 60 rfl w.heap.size 21 i21 (.int .i32 0) 1 4 Tryz.underlying60 HP.out.1 HP.out.2.1 HP.out.2.2.1 HP.out.2.2.2 rfl (by decide) _ _ _ rfl (H2.out.r4.alloc _) ⟨w2.heap.size, 0, none⟩ 1 1 [.int .i32 sr] rfl rfl (cell_one_new _ _ _) (by simp [Value.oneCell']) (by unfold maxLen; omega) (by omega) (by have := H2.out.bel.size; simp; omega) ?_; intro v4 w3 ho1 hg1 _; have HA3 := Lib.hid (rn_app1 (x := (a, sr)) H2.out ho1 hg1); clear ho1 hg1) | (at_builtin; go_loud (refine wpList_append_own _ rfl _ _ 30 rfl w.heap.size 3 ti3 (.int .i64 0) 1 8 Tryz.underlying30 HQ.out.1 HQ.out.2.1 HQ.out.2.2.1 HQ.out.2.2.2 rfl (by decide) _ _ _ rfl (HA3.out.r5.alloc _) ⟨w3.heap.size, 0, none⟩ 1 1 [.int .i64 (a : Nat)] rfl rfl (cell_one_new _ _ _) (by simp [Value.oneCell']) (by unfold maxLen; omega) (by omega) (by have := HA3.out.bel.size; simp; omega) ?_); intro v5 w4 ho2 hg2 _; have HS := Lib.hid (rn_app2 HA3.out ho2 hg2); clear ho2 hg2 HA3))
        go_roundw
        case rel => exact ⟨pre ++ [(a, sr)], a + sn, f', by go_num, by omega, by omega, by simp; omega, Lib.hid (by have := HIT.out; rw [this, List.drop_drop]; simp), HS⟩
        case measure => simp [intOf]; omega
      · obtain ⟨rfl, rfl⟩ : sr = 65533 ∧ sn = 1 := by simpa using hS2
        clear hS2
        go_wp2_with (first | (go_at_call 63; fail))
        go_at_call 63
        refine HNX.out.mono ?_
        rintro e w2 ⟨rfl, hb2⟩
        have H2 := Lib.hid (HR.out.below hb2)
        clear hb2 HNX
        go_wp2_with (first | (at_builtin; refine wpList_append_own _ rfl _ _ 60 rfl w.heap.size 21 i21 (.int .i32 0) 1 4 Tryz.underlying60 HP.out.1 HP.out.2.1 HP.out.2.2.1 HP.out.2.2.2 rfl (by decide) _ _ _ rfl (H2.out.r4.alloc _) ⟨w2.heap.size, 0, none⟩ 1 1 [.int .i32 65533] rfl rfl (cell_one_new _ _ _) (by simp [Value.oneCell']) (by unfold maxLen; omega) (by omega) (by have := H2.out.bel.size; simp; omega) ?_; intro v4 w3 ho1 hg1 _; have HA3 := Lib.hid (rn_app1 (x := (a, 65533)) H2.out ho1 hg1); clear ho1 hg1) | (at_builtin; go_loud (refine wpList_append_own _ rfl _ _ 30 rfl w.heap.size 3 ti3 (.int .i64 0) 1 8 Tryz.underlying30 HQ.out.1 HQ.out.2.1 HQ.out.2.2.1 HQ.out.2.2.2 rfl (by decide) _ _ _ rfl (HA3.out.r5.alloc _) ⟨w3.heap.size, 0, none⟩ 1 1 [.int .i64 (a : Nat)] rfl rfl (cell_one_new _ _ _) (by simp [Value.oneCell']) (by unfold maxLen; omega) (by omega) (by have := HA3.out.bel.size; simp; omega) ?_); intro v5 w4 ho2 hg2 _; have HS := Lib.hid (rn_app2 HA3.out ho2 hg2); clear ho2 hg2 HA3))
        go_roundw
        case rel => exact ⟨pre ++ [(a, 65533)], a + 1, f', by go_num, by omega, by omega, by simp; omega, Lib.hid (by have := HIT.out; rw [this, List.drop_drop]; simp), HS⟩
        case measure => simp [intOf]; omega
    · have i2 : ¬ (a : Int) < (n : Int) := by omega
      have he : itm l = pre := by
        have := HI.out
        rw [List.drop_eq_nil_of_le (by have := HN.out; omega), itmN_nil, List.append_nil] at this
        exact this
      have HE : Hid (RnI w (itm l) (.slice y4 pre.length d4) (.slice y5 pre.length d5) wr) := Lib.hid (by rw [he]; exact HR.out)
      clear he
      go_wp2
      go_ret2
      exact ⟨_, _, rfl, HE.out⟩
end Go.Proofs.YtdehjofmangmbaaGreat
