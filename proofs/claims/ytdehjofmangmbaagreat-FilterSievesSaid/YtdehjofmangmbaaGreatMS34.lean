/- Own texts, merged: FH. -/
import Derived.Test.YtdehjofmangmbaaGreatMS33
/- Walks: kept, Cost. -/
namespace Go.Proofs.YtdehjofmangmbaaGreat
open Go.RowKit Go.Shelf
theorem wdF_ne (cs : List Bs) : ∀ L ∈ (wdF cs).1, L ≠ [] := by
  have : ∀ (cs : List Bs) (s : List (List Bs) × Bool), (∀ L ∈ s.1, L ≠ []) → ∀ L ∈ (cs.foldl wdR s).1, L ≠ [] := by
    intro cs
    induction cs with
    | nil => intro s h; exact h
    | cons c r ih =>
      intro s h
      refine ih _ (fun L hL => ?_)
      unfold wdR at hL
      split at hL
      · exact h L hL
      · split at hL
        · obtain ⟨m, hm, e⟩ := List.getElem_of_mem hL
          rw [List.getElem_set] at e
          split at e
          · subst e; simp
          · subst e; exact h _ (List.getElem_mem _)
        · rcases List.mem_append.1 hL with q | q
          · exact h L q
          · simp at q; subst q; simp
  have h := this cs ([], false) (by simp)
  simpa [wdF] using h
theorem wds_ne (q : Bs) : ∀ L ∈ wds q, L ≠ [] := wdF_ne (clS q)
theorem fnd_pos {o wd : List Bs} {f : Fnd} (h : fndS o wd = some f) (hw : wd ≠ []) : 0 < f.at_.length := by
  have hwl := List.length_pos_iff.2 hw
  cases hb : besS o wd with
  | nil =>
    rw [fnd_nil hb] at h
    obtain ⟨i, hc, _, _⟩ := spr_inv o wd _ f h
    have := (chn_facts hc).1
    omega
  | cons p r =>
    unfold fndS at h
    rw [hb] at h
    simp only at h
    split at h
    · cases h; simp only [runN_len]; exact hwl
    · split at h
      · cases h; simp only [runN_len]; exact hwl
      · cases h; simp only [runN_len]; exact hwl
theorem kep_snoc (o : List Bs) (ws : List (List Bs)) (w : List Bs) : kepS o (ws ++ [w]) = kepR o (kepS o ws) w := by simp [kepS]
theorem kep_none (o : List Bs) (ws : List (List Bs)) : ws.foldl (kepR o) none = none := by
  induction ws with
  | nil => rfl
  | cons w r ih => exact ih
theorem kep_take {o : List Bs} {ws : List (List Bs)} {j : Nat} (h : kepS o (ws.take j) = none) : kepS o ws = none := by
  unfold kepS at h ⊢
  have e : ws = ws.take j ++ ws.drop j := (List.take_append_drop j ws).symm
  rw [e, List.foldl_append, h, kep_none]
structure KOk (o : List Bs) (k : Nat) (f : Fnd) : Prop where
  at_ : ∀ x ∈ f.at_, x < o.length
  rank : f.rank ≤ 4 * k
  gaps : f.gaps ≤ o.length * k
  len : f.at_.length ≤ o.length * k
theorem kep_ok (o : List Bs) : ∀ (ws : List (List Bs)) (f : Fnd), kepS o ws = some f → KOk o ws.length f := by
  have : ∀ (ws : List (List Bs)) (x : Fnd) (k : Nat), KOk o k x → ∀ f, ws.foldl (kepR o) (some x) = some f → KOk o (k + ws.length) f := by
    intro ws
    induction ws with
    | nil => intro x k hx f h; cases h; exact hx
    | cons w r ih =>
      intro x k hx f h
      rw [List.foldl_cons] at h
      cases hf : fndS o w with
      | none =>
        have e : kepR o (some x) w = none := by unfold kepR; rw [hf]
        rw [e, kep_none] at h
        cases h
      | some y =>
        have e : kepR o (some x) w = some ⟨x.rank + y.rank, x.gaps + y.gaps, x.at_ ++ y.at_⟩ := by unfold kepR; rw [hf]
        rw [e] at h
        have hy := fnd_ok hf
        have := ih _ (k + 1) ⟨fun z hz => by
          rcases List.mem_append.1 hz with q | q
          · exact hx.at_ z q
          · exact hy.at_ z q, by show x.rank + y.rank ≤ 4 * (k + 1); have := hx.rank; have := hy.rank; omega, by show x.gaps + y.gaps ≤ o.length * (k + 1); have := hx.gaps; have := hy.gaps; rw [Nat.mul_succ]; omega, by show (x.at_ ++ y.at_).length ≤ o.length * (k + 1); have := hx.len; have := hy.len; rw [List.length_append, Nat.mul_succ]; omega⟩ f h
        rw [List.length_cons, show k + (r.length + 1) = k + 1 + r.length by omega]
        exact this
  intro ws f h
  have := this ws ⟨0, 0, []⟩ 0 ⟨by simp, by simp, by simp, by simp⟩ f h
  simpa using this
/-- What kept's loop keeps. -/
def KpI (T : TypeId) (w : World) (f : Fnd) (W : World) : Prop := ∃ x c, C3 T W (w.heap.size + 1) (.int .i64 f.rank) (.int .i64 f.gaps) (.slice x f.at_.length c) ∧ IntO w.heap.size W (.slice x f.at_.length c) f.at_ ∧ C3 T W w.heap.size (.int .i64 0) (.int .i64 0) (.slice none 0 0) ∧ Below w.heap.size w W
theorem KpI.below {T : TypeId} {w : World} {f : Fnd} {W W' : World} (h : KpI T w f W) (hB : Below W.heap.size W W') : KpI T w f W' := by
  obtain ⟨x, c, h1, h2, h3, h4⟩ := h
  exact ⟨x, c, h1.below hB, h2.below hB, h3.below hB, h4.trans (below_le hB h4.size)⟩
theorem C3.not_row {T : TypeId} {b : Nat} {W : World} {g : Nat} {a b' c v : Value} {n : Nat} {xs : List Value} (hg : C3 T W g a b' c) (hT : T ≠ 3) (h : W.ownsRow b 3 1 v n xs) : some g ≠ v.ownBlock := fun e => by
  rcases h.2 with ⟨rfl, _⟩ | ⟨g', cap, cur, rfl, _, hg', _⟩
  · cases e
  · obtain rfl : g = g' := by simpa [Value.ownBlock] using e
    have := hg.symm.trans hg'
    simp at this
    exact hT this.2
theorem C3.grown {T : TypeId} {W W' : World} {g : Nat} {a b c : Value} {r : Option Nat} (h : C3 T W g a b c) (hg : W.grownBy W' r) (hr : some g ≠ r) : C3 T W' g a b c := h.kept (hg.block g h.lt hr)
def put2 (w : World) (g : Nat) (a b : Value) : World := (w.setCell ⟨g, 0, none⟩ a).setCell ⟨g, 1, none⟩ b
theorem C3.put2 {T : TypeId} {w : World} {g : Nat} {a b c a' b' : Value} (h : C3 T w g a b c) : C3 T (put2 w g a' b') g a' b' c := by
  unfold C3 at h ⊢
  exact set_block (o := 1) (set_block (o := 0) h a') b'
theorem C3.put2_other {T : TypeId} {w : World} {g g' : Nat} {a b c a' b' : Value} (h : C3 T w g a b c) (hne : g ≠ g') : C3 T (Go.Proofs.YtdehjofmangmbaaGreat.put2 w g' a' b') g a b c := h.kept (by
  unfold Go.Proofs.YtdehjofmangmbaaGreat.put2
  rw [Below.heap_setCell _ _ _ g (by simpa using hne), Below.heap_setCell _ _ _ g (by simpa using hne)])
theorem C3.last {T : TypeId} {w : World} {g : Nat} {a b c c' : Value} (h : C3 T w g a b c) : C3 T (w.setCell ⟨g, 2, none⟩ c') g a b c' := by
  unfold C3 at h ⊢
  exact set_block (o := 2) h c'
theorem IntO.set_cell {T : TypeId} {b : Nat} {W : World} {v : Value} {l : List Nat} {g k : Nat} {a b' c a' : Value} (h : IntO b W v l) (hg : C3 T W g a b' c) (hT : T ≠ 3) : IntO b (W.setCell ⟨g, k, none⟩ a') v l :=
  ownsRow_setCell_other (a := ⟨g, k, none⟩) h (fun e => C3.not_row hg hT h e.symm) _
theorem IntO.put2 {T : TypeId} {b : Nat} {W : World} {v : Value} {l : List Nat} {g : Nat} {a b' c a' b2 : Value} (h : IntO b W v l) (hg : C3 T W g a b' c) (hT : T ≠ 3) : IntO b (Go.Proofs.YtdehjofmangmbaaGreat.put2 W g a' b2) v l := by
  have hne : v.ownBlock ≠ some g := fun e => C3.not_row hg hT h e.symm
  exact ownsRow_setCell_other (a := ⟨g, 1, none⟩) (ownsRow_setCell_other (a := ⟨g, 0, none⟩) h hne _) hne _
theorem below_put2 {n : Nat} {w W : World} {g : Nat} {a b : Value} (h : Below n w W) (hg : n ≤ g) : Below n w (put2 W g a b) := (h.setCell (p := ⟨g, 0, none⟩) hg _).setCell (p := ⟨g, 1, none⟩) hg _
set_option maxRecDepth 100000 in
set_option maxHeartbeats 2000000 in
theorem wkept (vo vq : Value) (o : List Bs) (ws : List (List Bs)) (ho : ∀ c ∈ o, c ≠ []) (hws : ∀ L ∈ ws, L ≠ []) (hol : o.length ≤ 700000) (hwl : ws.length ≤ 700000) (w : World) (h1 : TxV w vo o) (h2 : RowsV w vq ws) : Calls Tryz.prog 38 #[vo, vq] w (FndEnd (kepS o ws) w) := by
  have HF := Lib.hid (fun (u : Value) (L : List Bs) (W : World) (hB : Below w.heap.size w W) (h : TxV W u L) => wfind vo u o L ho W (h1.below hB) h)
  unfold FndEnd at HF
  have HOL := Lib.hid (And.intro hol hwl)
  have HWN := Lib.hid hws
  obtain ⟨i3, hi, hi0, hi1, hi2⟩ := info_parts3
  have HP := Lib.hid (And.intro hi (And.intro hi0 (And.intro hi1 hi2)))
  obtain ⟨xo, co, rfl, _, hn6, _⟩ := h1.old
  obtain ⟨xq, cq, rfl, hqc, hq6, hqg⟩ := h2
  have HG := Lib.hid hqg
  obtain ⟨m, hm⟩ : ∃ m, m = ws.length := ⟨_, rfl⟩
  have HM := Lib.hid hm
  have H0 : Hid (KpI 43 w ⟨0, 0, []⟩ ((w.alloc (.cells #[.int .i64 0, .int .i64 0, .slice none 0 0] 43)).alloc (.cells #[.int .i64 0, .int .i64 0, .slice none 0 0] 43))) := Lib.hid ⟨none, 0, by simpa [C3] using heap_alloc_new (w.alloc (.cells #[.int .i64 0, .int .i64 0, .slice none 0 0] 43)) (.cells #[.int .i64 0, .int .i64 0, .slice none 0 0] 43), IntO.nil _ _, (heap_alloc_old _ _ (by simp)).trans (heap_alloc_new _ _), ((Below.refl _ _).alloc (Nat.le_refl _) _).alloc (by simp) _⟩
  rw [← hm] at hq6 hqc ⊢
  clear h1 hm hqg hi hi0 hi1 hi2 hws hol hwl
  go_enter Tryz.func38, Tryz.ntmps38
  go_wp2
  generalize ((w.alloc (.cells #[.int .i64 0, .int .i64 0, .slice none 0 0] 43)).alloc (.cells #[.int .i64 0, .int .i64 0, .slice none 0 0] 43)) = W0 at H0 ⊢
  go_loopw [13] (fun iv wr => ∃ (j : Nat) (f : Fnd), iv = .int .i64 (j : Int) ∧ j ≤ m ∧ Hid (kepS o (ws.take j) = some f) ∧ Hid (KpI 43 w f wr)) (fun iv _ => m - (intOf iv).toNat)
  case atStart => exact ⟨0, ⟨0, 0, []⟩, rfl, Nat.zero_le _, Lib.hid rfl, H0⟩
  case round =>
    clear H0
    obtain ⟨j, f, rfl, hj, HK, HI⟩ := hrel
    have i1 : (0 : Int) ≤ (j : Int) := by omega
    by_cases hlt : j < m
    · have i2 : (j : Int) < (m : Int) := by omega
      have hjl : j < ws.length := by have := HM.out; omega
      obtain ⟨gq, rfl, hgq, hget⟩ := HG.out (List.ne_nil_of_length_pos (by omega))
      obtain ⟨u, hu1, hu2⟩ := hget j ws[j] (List.getElem?_eq_getElem hjl)
      have HBW := Lib.hid (show Below w.heap.size w wr from HI.out.choose_spec.choose_spec.2.2.2)
      have ce : wr.cell? ⟨gq, j, none⟩ = some u := (HBW.out.cell (p := ⟨gq, j, none⟩) hgq).trans hu1
      have hu3 := hu2.below HBW.out
      obtain ⟨xu, cu, hxu, _⟩ := hu3.old
      have HF2 := Lib.hid (HF.out u ws[j] wr HBW.out hu3)
      have HSN : Hid (kepS o (ws.take (j + 1)) = kepR o (some f) ws[j]) := Lib.hid (by rw [List.take_succ_eq_append_getElem hjl, kep_snoc, HK.out])
      have HLN : Hid (ws[j] ≠ []) := Lib.hid (HWN.out _ (List.getElem_mem hjl))
      have HKO := Lib.hid (kep_ok o _ _ HK.out)
      have hfl : (ws.take j).length ≤ 700000 := by rw [List.length_take]; have := HOL.out.2; omega
      have hb1 : f.rank ≤ 2800000 := by have := HKO.out.rank; omega
      have hmul : o.length * (ws.take j).length ≤ 700000 * 700000 := Nat.mul_le_mul HOL.out.1 hfl
      have hb2 : f.gaps ≤ 490000000000 := by have := HKO.out.gaps; omega
      have hb3 : f.at_.length ≤ 490000000000 := by have := HKO.out.len; omega
      generalize ws[j] = L at HF2 HSN HLN hu3 hxu
      subst hxu
      generalize L.length = nl at ce HF2 ⊢
      clear hget hu1 hu2 hu3 hmul hfl HKO
      go_wp2_with (first | (go_at_call 29; fail))
      refine HF2.out.mono ?_
      rintro e w2 ⟨v2, rfl, hv2, hb4⟩
      obtain ⟨x2, c2, rfl, hI2⟩ := hv2.parts
      have HI2 := Lib.hid (HI.out.below hb4)
      have HB2 := Lib.hid (HBW.out.trans (below_le hb4 HBW.out.size))
      have HIY := Lib.hid (hI2.mono HBW.out.size)
      clear hI2 hv2 hb4 HI HBW ce
      cases hR : fndS o L with
      | none =>
        rw [hR] at HIY
        have HR : Hid (kepS o ws = none) := Lib.hid (kep_take (j := j + 1) (by rw [HSN.out]; unfold kepR; rw [hR]))
        have hal : Below w2.heap.size w2 (w2.alloc (.cells #[.int .i64 0, .int .i64 0, .slice x2 0 c2] 43)) := (Below.refl _ _).alloc (Nat.le_refl _) _
        obtain ⟨xa, ca, k6, kI, k4, kB⟩ := HI2.out.below hal
        obtain ⟨e0, e1, e2, f0, f1, f2⟩ := k4.cells
        have HPZ := Lib.hid (And.intro (k4.put (a' := .int .i64 0) (b' := .int .i64 0) (c' := .slice none 0 0)) (below_put3 (a := .int .i64 0) (b := .int .i64 0) (c := .slice none 0 0) kB (Nat.le_refl w.heap.size)))
        unfold put3 at HPZ
        have z1 : (fnd0 (none : Option Fnd)).rank = 0 := rfl
        have z2 : (fnd0 (none : Option Fnd)).gaps = 0 := rfl
        have z3 : (fnd0 (none : Option Fnd)).at_.length = 0 := rfl
        rw [z1, z2, z3]
        clear k6 kI k4 kB hal z1 z2 z3
        go_wp2
        refine bodyPost_ret (results_cell_tmp rfl _ _ w.heap.size 43 _ _ _ rfl HPZ.out.1 Tryz.underlying43 rfl (by kernel_rfl)) rfl ?_
        rw [HR.out]
        exact ⟨_, rfl, ⟨none, 0, rfl, IntO.nil _ _⟩, HPZ.out.2⟩
      | some y =>
        rw [hR] at HIY
        have hok := fnd_ok hR
        have hyp := fnd_pos hR HLN.out
        have hy1 := hok.rank
        have hy2 : y.gaps ≤ 700000 := by have := hok.gaps; have := HOL.out.1; omega
        have hy3 : y.at_.length ≤ 700000 := by have := hok.len; have := HOL.out.1; omega
        have HS : Hid (kepS o (ws.take (j + 1)) = some ⟨f.rank + y.rank, f.gaps + y.gaps, f.at_ ++ y.at_⟩) := Lib.hid (by rw [HSN.out]; unfold kepR; rw [hR])
        have hIY : IntO w.heap.size w2 (.slice x2 y.at_.length c2) y.at_ := HIY.out
        have hal : Below w2.heap.size w2 (w2.alloc (.cells #[.int .i64 y.rank, .int .i64 y.gaps, .slice x2 y.at_.length c2] 43)) := (Below.refl _ _).alloc (Nat.le_refl _) _
        have HI3 := Lib.hid (HI2.out.below hal)
        have HY3 := Lib.hid (hIY.below hal)
        have HF3 : Hid (C3 43 (w2.alloc (.cells #[.int .i64 y.rank, .int .i64 y.gaps, .slice x2 y.at_.length c2] 43)) w2.heap.size (.int .i64 y.rank) (.int .i64 y.gaps) (.slice x2 y.at_.length c2)) := Lib.hid (heap_alloc_new _ _)
        have HSZ : Hid (w.heap.size + 1 < w2.heap.size) := Lib.hid (by obtain ⟨_, _, k, _⟩ := HI2.out; exact k.lt)
        have z1 : (fnd0 (some y)).rank = y.rank := rfl
        have z2 : (fnd0 (some y)).gaps = y.gaps := rfl
        have z3 : (fnd0 (some y)).at_.length = y.at_.length := rfl
        rw [z1, z2, z3]
        clear hok hR HIY hIY hal z1 z2 z3 HI2 HB2 HSN HF2 HK
        obtain ⟨xa, ca, k6, kI, k4, kB⟩ := HI3.out
        have HK6 := Lib.hid k6
        have HKI := Lib.hid kI
        have HK4 := Lib.hid k4
        have HKB := Lib.hid kB
        obtain ⟨e0, e1, e2, f0, f1, f2⟩ := k6.cells
        obtain ⟨y0, y1, y2, _, _, _⟩ := HF3.out.cells
        clear k6 kI k4 kB HI3
        go_upto_region 10 with (fail)
        generalize (w2.alloc (.cells #[.int .i64 y.rank, .int .i64 y.gaps, .slice x2 y.at_.length c2] 43)) = W3 at HK6 HKI HK4 HKB HY3 HF3 e0 e1 e2 f0 f1 f2 y0 y1 y2 ⊢
        clear e0 e1 e2 f0 f1 f2 y0 y1 y2
        have HK6' := Lib.hid (HK6.out.put2 (a' := .int .i64 ((f.rank : Int) + (y.rank : Int))) (b' := .int .i64 ((f.gaps : Int) + (y.gaps : Int))))
        have HKI' := Lib.hid (HKI.out.put2 (a' := .int .i64 ((f.rank : Int) + (y.rank : Int))) (b2 := .int .i64 ((f.gaps : Int) + (y.gaps : Int))) HK6.out (by decide))
        have HY3' := Lib.hid (HY3.out.put2 (a' := .int .i64 ((f.rank : Int) + (y.rank : Int))) (b2 := .int .i64 ((f.gaps : Int) + (y.gaps : Int))) HK6.out (by decide))
        have HK4' := Lib.hid (HK4.out.put2_other (g' := w.heap.size + 1) (a' := .int .i64 ((f.rank : Int) + (y.rank : Int))) (b' := .int .i64 ((f.gaps : Int) + (y.gaps : Int))) (by omega))
        have HF3' := Lib.hid (HF3.out.put2_other (g' := w.heap.size + 1) (a' := .int .i64 ((f.rank : Int) + (y.rank : Int))) (b' := .int .i64 ((f.gaps : Int) + (y.gaps : Int))) (by have := HSZ.out; omega))
        have HKB' := Lib.hid (below_put2 (g := w.heap.size + 1) (a := .int .i64 ((f.rank : Int) + (y.rank : Int))) (b := .int .i64 ((f.gaps : Int) + (y.gaps : Int))) HKB.out (by omega))
        unfold put2 at HK6' HKI' HY3' HK4' HF3' HKB'
        generalize ((W3.setCell ⟨w.heap.size + 1, 0, none⟩ (.int .i64 ((f.rank : Int) + (y.rank : Int)))).setCell ⟨w.heap.size + 1, 1, none⟩ (.int .i64 ((f.gaps : Int) + (y.gaps : Int)))) = W5 at HK6' HKI' HY3' HK4' HF3' HKB' ⊢
        clear HK6 HKI HY3 HK4 HF3 HKB
        obtain ⟨_, _, e2, _, _, f2⟩ := HK6'.out.cells
        obtain ⟨_, _, y2, _, _, _⟩ := HF3'.out.cells
        obtain ⟨hkk, gy, rfl, _, hcy, _⟩ := HY3'.out.get 0 hyp
        clear hkk
        have HNW : Hid (∀ j u, (ints y.at_)[j]? = some u → W5.cell? ((⟨gy, 0, none⟩ : Addr).add j) = some u) := Lib.hid (World.ownsRow.cells HY3'.out rfl)
        have hbs := HKB'.out.size
        go_wp2_with (at_builtin; go_loud (refine wpList_append_own _ rfl _ _ 30 rfl w.heap.size 3 i3 (.int .i64 0) 1 8 Tryz.underlying30 HP.out.1 HP.out.2.1 HP.out.2.2.1 HP.out.2.2.2 rfl (by decide) _ _ _ rfl HKI'.out ⟨gy, 0, none⟩ y.at_.length c2 (ints y.at_) rfl (by simp [ints]) HNW.out (by intro u hu; unfold ints at hu; obtain ⟨a, _, rfl⟩ := List.mem_map.1 hu; rfl) (by unfold maxLen; omega) (by omega) hbs ?_))
        intro v' w6 ho hg _
        obtain ⟨x', c', rfl⟩ := ownsRow_is ho
        have hk6 := HK6'.out.grown hg (C3.not_row HK6'.out (by decide) HKI'.out)
        have HK4'' := Lib.hid (HK4'.out.grown hg (C3.not_row HK4'.out (by decide) HKI'.out))
        have HB6 := Lib.hid (HKB'.out.grown hg hbs (fun k e => (HKI'.out.lt k e).1))
        obtain ⟨_, _, e2', _, _, f2'⟩ := hk6.cells
        have HIN : Hid (IntO w.heap.size w6 (.slice x' (f.at_.length + y.at_.length) c') (f.at_ ++ y.at_)) := Lib.hid (by unfold IntO; rw [ints_app, List.length_append]; exact ho)
        have HNX : Hid (KpI 43 w ⟨f.rank + y.rank, f.gaps + y.gaps, f.at_ ++ y.at_⟩ (w6.setCell ⟨w.heap.size + 1, 2, none⟩ (.slice x' (f.at_.length + y.at_.length) c'))) := Lib.hid ⟨x', c', by
          have h := hk6.last (c' := .slice x' (f.at_.length + y.at_.length) c')
          simpa using h, by
          have h := HIN.out.set_cell (k := 2) (a' := .slice x' (f.at_.length + y.at_.length) c') hk6 (by decide)
          simpa using h, HK4''.out.kept (Below.heap_setCell _ _ _ _ (by simp)), HB6.out.setCell (p := ⟨w.heap.size + 1, 2, none⟩) (by simp) _⟩
        clear ho hg hk6 e2 f2 y2 HKB'
        go_wp2
        go_roundw
        case rel => exact ⟨j + 1, _, by go_num, by omega, HS, HNX⟩
        case measure => simp [intOf]; omega
    · obtain rfl : j = m := by omega
      have HR : Hid (kepS o ws = some f) := Lib.hid (by have h := HK.out; rwa [List.take_of_length_le (by have := HM.out; omega)] at h)
      have i2 : ¬ (j : Int) < (j : Int) := by omega
      obtain ⟨x0, c0, k6, hI, kz, hB⟩ := HI.out
      obtain ⟨e0, e1, e2, _, _, _⟩ := k6.cells
      obtain ⟨z0, z1, z2, f0, f1, f2⟩ := kz.cells
      have HPZ := Lib.hid (fnd_put (r := f.rank) (g := f.gaps) kz (by decide) hI hB)
      unfold put3 at HPZ
      clear k6 hI kz hB HI HK
      go_wp2
      refine bodyPost_ret (results_cell_tmp rfl _ _ w.heap.size 43 _ _ _ rfl HPZ.out.1 Tryz.underlying43 rfl (by kernel_rfl)) rfl ?_
      rw [HR.out]
      exact ⟨_, rfl, HPZ.out.2.1, HPZ.out.2.2⟩
end Go.Proofs.YtdehjofmangmbaaGreat
