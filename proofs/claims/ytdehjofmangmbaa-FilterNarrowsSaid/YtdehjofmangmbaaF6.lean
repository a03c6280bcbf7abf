/- Walks: words, Words. -/
import Derived.Test.YtdehjofmangmbaaF5
namespace Go.Proofs.Ytdehjofmangmbaa
open Go.RowKit Go.Shelf
theorem info_row : ∃ i0, Try.prog.info? 22 = some i0 ∧ i0.zero = some (.slice none 0 0) ∧ i0.size = 1 ∧ i0.bytes = 24 :=
  info_parts (show (Try.prog.info? 22).map (fun i => (i.zero, i.size, i.bytes)) = some (some (.slice none 0 0), 1, 24) by kernel_rfl)
theorem take_snocB (l : List Bs) (j : Nat) (h : j < l.length) : l.take (j + 1) = l.take j ++ [l.getD j []] := by
  rw [List.take_succ_eq_append_getElem h, List.getD_eq_getElem?_getD, List.getElem?_eq_getElem h]; rfl
theorem tx_first {c : Bs} (h : c ≠ []) : ∃ b : UInt8, c.getD 0 0 = b ∧ ∃ hs : 0 < (tx c).size, (tx c)[0]'hs = b := by
  obtain ⟨b, t, rfl⟩ := List.exists_cons_of_ne_nil h
  exact ⟨b, rfl, by simp [tx, ByteArray.size], by simp [tx, ByteArray.getElem_eq_getElem_data]⟩
theorem len_sum : ∀ (LL : List (List Bs)) (m : Nat), m < LL.length → (LL.getD m []).length ≤ (LL.map List.length).sum
  | [], m, h => by simp at h
  | L :: r, 0, _ => by simp
  | L :: r, m + 1, h => by
    have := len_sum r m (by simpa using h)
    simp only [List.getD_cons_succ, List.map_cons, List.sum_cons]
    omega
theorem tx_firstU {c : Bs} {U : ByteArray} (h : c ≠ []) (hU : U = tx c) : ∃ b : UInt8, c.getD 0 0 = b ∧ ∃ hs : 0 < U.size, U[0]'hs = b := by subst hU; exact tx_first h
/-- What words' loop keeps. -/
structure WdI (w1 : World) (S : List (List Bs) × Bool) (v : Value) (W : World) : Prop where
  ex : ∃ vs, Rows2 w1.heap.size W v S.1 vs
  bel : Below w1.heap.size w1 W
theorem Rows2.kept {B : Nat} {W w3 : World} {v u : Value} {LL : List (List Bs)} {vs : List Value} {L : List Bs} {o : Obj} (h : Rows2 B W v LL vs) (hu : W.ownsRow B 9 1 u L.length (strs L)) (hg : (W.alloc o).grownBy w3 u.ownBlock) : w3.ownsRow B 22 1 v LL.length vs := (h.out.alloc o).kept hg (types_ne h.out hu (by decide))
def WdEnd (q : Bs) (w : World) (e : Ending) (w' : World) : Prop := ∃ v, e = .returned v ∧ RowsV w' v (wds q) ∧ Below w.heap.size w w'
set_option maxRecDepth 100000 in
set_option maxHeartbeats 4000000 in
theorem wwords (q : Bs) (hq : q.length ≤ 10000) (w : World) : Calls Try.prog 11 #[.string (tx q)] w (WdEnd q w) := by
  unfold WdEnd
  have HC := Lib.hid (fun W => wcl q hq W)
  unfold ClEnd at HC
  have HNE := Lib.hid (clS_ne q)
  have HLN := Lib.hid (clS_len q)
  have HQ := Lib.hid hq
  have HW : Hid (wds q = (wdF (clS q)).1) := Lib.hid rfl
  obtain ⟨i3, hi, hi0, hi1, hi2⟩ := info_row
  have HP := Lib.hid (And.intro hi (And.intro hi0 (And.intro hi1 hi2)))
  obtain ⟨i9, hi, hi0, hi1, hi2⟩ := info_parts9
  have HP9 := Lib.hid (And.intro hi (And.intro hi0 (And.intro hi1 hi2)))
  clear hi hi0 hi1 hi2 hq
  obtain ⟨cs, hcs⟩ : ∃ cs, cs = clS q := ⟨_, rfl⟩
  rw [← hcs] at HC HNE HLN HW
  generalize tx q = T at HC ⊢
  clear hcs
  go_enter Try.func11, Try.ntmps11
  go_wp2_with (first | (go_at_call 10; fail))
  go_at_call 10
  refine (HC.out _).mono ?_
  rintro e w1 ⟨v9, rfl, hv, hb⟩
  obtain ⟨x9, c9, rfl⟩ := ownsRow_is hv
  have HR := Lib.hid (fun (W : World) (hB : Below w1.heap.size w1 W) (j : Nat) (hj : j < cs.length) => rowK_get (row_kept hv (fun k hk => hB.block k (hv.lt k hk).2)) j hj)
  obtain ⟨n, hn⟩ : ∃ n, n = cs.length := ⟨_, rfl⟩
  have HN := Lib.hid hn
  have hn9 : n ≤ 700000 := by have := HLN.out; have := HQ.out; omega
  have H1 : Hid (WdI w1 ([], false) (.slice none 0 0) w1) := Lib.hid ⟨⟨[], Rows2.nil _ _⟩, Below.refl _ _⟩
  have HBW := Lib.hid hb
  rw [← hn]
  clear hv hb hn HC
  go_wp2
  go_loopw [3, 4, 11] (fun v o i wr => ∃ (j : Nat) (op : Bool), i = .int .i64 (j : Int) ∧ j ≤ n ∧ o = .bool op ∧ op = (wdF (cs.take j)).2 ∧ Hid (WdI w1 (wdF (cs.take j)) v wr)) (fun _ _ i _ => n - (intOf i).toNat)
  case atStart => exact ⟨0, false, rfl, Nat.zero_le _, rfl, rfl, H1⟩
  case round =>
    clear H1
    obtain ⟨j, op, rfl, hj, rfl, hop, HI⟩ := hrel
    have HOP := Lib.hid hop
    clear hop
    have i1 : (0 : Int) ≤ (j : Int) := by omega
    by_cases hlt : j < n
    · have i2 : (j : Int) < (n : Int) := by omega
      have hjl : j < cs.length := by have := HN.out; omega
      obtain ⟨g9, rfl, hg9, hgc, hget⟩ := HR.out wr HI.out.bel j hjl
      have ce := hget j hjl
      have HTK := Lib.hid (take_snocB cs j hjl)
      have hcne : cs.getD j [] ≠ [] := HNE.out _ (by rw [List.getD_eq_getElem?_getD, List.getElem?_eq_getElem hjl]; exact List.getElem_mem hjl)
      have HSN := Lib.hid (wdF_snoc (cs.take j) (cs.getD j []))
      rw [← HTK.out] at HSN
      have HFL := Lib.hid (wdF_len (cs.take j))
      have HFS := Lib.hid (wdF_flat (cs.take j))
      obtain ⟨c, hc⟩ : ∃ c, c = cs.getD j [] := ⟨_, rfl⟩
      rw [← hc] at ce hcne HSN
      obtain ⟨⟨LL, op2⟩, hS⟩ : ∃ S, S = wdF (cs.take j) := ⟨_, rfl⟩
      rw [← hS] at HI HSN HOP HFL HFS
      have HOP2 : Hid (op = op2) := Lib.hid HOP.out
      have hLn : LL.length ≤ 700000 := by have := HFL.out.1; simp at this; omega
      obtain ⟨U, hU⟩ : ∃ U, U = tx c := ⟨_, rfl⟩
      have HU := Lib.hid hU
      rw [← hU] at ce
      obtain ⟨b, hb0, hbs, hbx2⟩ := tx_firstU hcne hU
      obtain ⟨⟨vs, h2⟩, hbel⟩ := HI.out
      have h2 : Rows2 w1.heap.size wr _ LL vs := h2
      obtain ⟨xv, cv, rfl⟩ := ownsRow_is h2.out
      have H2 := Lib.hid h2
      have HBL := Lib.hid hbel
      have hbsz := hbel.size
      clear hget hc hS hU HI HOP hcne hgc h2 hbel
      have i0 : (0 : Int) < (U.size : Int) := by omega
      by_cases hb32 : b = 32
      · subst hb32
        have HS : Hid (wdF (cs.take (j + 1)) = (LL, false)) := Lib.hid (by rw [HSN.out]; unfold wdR isBl; rw [hb0]; rfl)
        clear HSN hb0
        go_wp2
        go_roundw
        case rel => exact ⟨j + 1, false, by go_num, by omega, rfl, by rw [HS.out], Lib.hid (by rw [HS.out]; exact ⟨⟨vs, H2.out⟩, HBL.out⟩)⟩
        case measure => simp [intOf]; omega
      · have hbl : isBl c = false := by unfold isBl; rw [hb0]; simpa using hb32
        have HB32 : ((b.toNat : Int) == 32) = false := by
          rw [beq_eq_false_iff_ne]
          intro e
          exact hb32 (UInt8.toNat_inj.1 (by have : (32 : UInt8).toNat = 32 := rfl; omega))
        cases op
        · have HS : Hid (wdF (cs.take (j + 1)) = (LL ++ [[c]], true)) := Lib.hid (by rw [HSN.out]; unfold wdR; rw [hbl, ← HOP2.out]; rfl)
          clear HSN hb0 hbl hb32
          obtain ⟨m, hm⟩ : ∃ m, m = LL.length := ⟨_, rfl⟩
          have HM := Lib.hid hm
          go_wp2_with (at_builtin; go_loud (refine wpList_append_own _ rfl _ _ 36 rfl w1.heap.size 22 i3 (.slice none 0 0) 1 24 Try.underlying36 HP.out.1 HP.out.2.1 HP.out.2.2.1 HP.out.2.2.2 rfl (by decide) _ _ _ rfl (H2.out.out.alloc _) ⟨wr.heap.size, 0, none⟩ 1 1 [.slice none 0 0] rfl rfl (cell_one_new _ _ _) (by simp [Value.oneCell']) (by unfold maxLen; omega) (by omega) (by simp; omega) ?_))
          intro v' w3 ho hg _
          have HB3 : Hid (Below w1.heap.size w1 w3) := Lib.hid ((HBL.out.alloc HBL.out.size _).grown hg (by simp; omega) (fun k e => (H2.out.out.lt k e).1))
          obtain ⟨g, cap, rfl⟩ := ownsRow_succ ho
          have hr3 := H2.out.push ho hg
          have HR3 : Hid (Rows2 w1.heap.size w3 (.slice (some ⟨g, 0, none⟩) (LL ++ [[]]).length cap) (LL ++ [[]]) (vs ++ [.slice none 0 0])) := Lib.hid (by rw [List.length_append]; exact hr3)
          have HLN2 : Hid ((LL ++ [[]]).length = m + 1) := Lib.hid (by rw [hm]; simp)
          have HLK : Hid ((LL ++ [([] : List Bs)])[m]? = some []) := Lib.hid (by rw [hm, List.getElem?_append_right (Nat.le_refl _)]; simp)
          have HFX : Hid ((LL ++ [([] : List Bs)]).set m ([] ++ [c]) = LL ++ [[c]]) := Lib.hid (by rw [hm, List.set_append_right _ _ (Nat.le_refl _)]; simp)
          rw [← hm]
          rw [← hm] at hLn
          have hlx := HM.out
          clear ho hg hr3 hm
          have hlv := H2.out.len
          have HUE := Lib.hid (World.ownsRow_nil w3 w1.heap.size 9 1)
          have HUU : Hid ((vs ++ [Value.slice none 0 0])[m]? = some (Value.slice none 0 0)) := Lib.hid (by rw [hlx, ← hlv, List.getElem?_append_right (Nat.le_refl _)]; simp)
          have huu := HUU.out
          have ce3 : w3.cell? ⟨g, m, none⟩ = some (.slice none 0 0) := (HR3.out.out.cellAt m (by rw [HLN2.out]; omega)).trans huu
          have hbs3 := HB3.out.size
          clear huu hlv hlx
          go_wp2_with (at_builtin; go_loud (refine wpList_append_own_at _ rfl _ _ 22 rfl w1.heap.size 9 i9 (.string ⟨#[]⟩) 1 16 Try.underlying22 HP9.out.1 HP9.out.2.1 HP9.out.2.2.1 HP9.out.2.2.2 rfl (by decide) _ _ _ rfl (HUE.out.alloc _) ⟨w3.heap.size, 0, none⟩ 1 1 [.string U] rfl rfl (cell_one_new _ _ _) (by simp [Value.oneCell']) (by unfold maxLen; omega) (by omega) (by simp; omega) ?_))
          intro v2 w4 ho2 hg2 _ ha2
          obtain ⟨x2, c2, rfl⟩ := ownsRow_is ho2
          have HR4 := Lib.hid (HR3.out.app HLK.out HUU.out (by rw [HU.out] at ho2; exact ho2) hg2 ha2)
          have HO4 := Lib.hid (HR3.out.kept (L := []) HUE.out hg2)
          have c4 : w4.cell? ⟨g, m, none⟩ = some (.slice none 0 0) := (HO4.out.cellAt m (by rw [HLN2.out]; omega)).trans HUU.out
          have f4 : w4.frozen? ⟨g, m, none⟩ = false := HO4.out.frozenAt m
          have HB4 : Hid (Below w1.heap.size w1 (w4.setCell ⟨g, m, none⟩ (.slice x2 1 c2))) := Lib.hid (((HB3.out.alloc HB3.out.size _).grown hg2 (by simp; omega) (fun k e => (HUE.out.lt k e).1)).setCell (p := ⟨g, m, none⟩) (HO4.out.lt g rfl).1 _)
          clear ho2 hg2 ha2 ce3
          go_wp2
          go_roundw
          case rel => exact ⟨j + 1, true, by go_num, by omega, rfl, by rw [HS.out], Lib.hid (by rw [HS.out]; exact ⟨⟨_, by rw [← HFX.out]; have h := HR4.out; rw [HLN2.out] at h; exact h⟩, HB4.out⟩)⟩
          case measure => simp [intOf]; omega
        · obtain ⟨m, hm⟩ : ∃ m, LL.length = m + 1 := ⟨LL.length - 1, by have h1 : LL ≠ [] := HFL.out.2 HOP2.out.symm; have := List.length_pos_iff.2 h1; omega⟩
          have HLN2 := Lib.hid hm
          have HS : Hid (wdF (cs.take (j + 1)) = (LL.set m (LL.getD m [] ++ [c]), true)) := Lib.hid (by rw [HSN.out]; unfold wdR; rw [hbl, ← HOP2.out]; simp only [Bool.false_eq_true, if_false, if_true]; rw [hm]; rfl)
          clear HSN hb0 hbl hb32
          have ho := H2.out.out
          rw [hm] at ho
          obtain ⟨g, cap, hgc⟩ := ownsRow_succ ho
          obtain ⟨rfl, rfl⟩ : xv = some ⟨g, 0, none⟩ ∧ cv = cap := by simpa using hgc
          have HLK : Hid (LL[m]? = some (LL.getD m [])) := Lib.hid (by rw [List.getD_eq_getElem?_getD, List.getElem?_eq_getElem (show m < LL.length by omega)]; rfl)
          have HLE : Hid ((LL.getD m []).length ≤ 700000) := Lib.hid (by
            have h1 : (LL.getD m []).length ≤ (LL.map List.length).sum := len_sum LL m (by omega)
            have h2 := HFS.out
            simp at h2
            omega)
          have hLe := HLE.out
          rw [hm]
          rw [hm] at hLn
          clear ho hgc hm
          generalize LL.getD m [] = LX at *
          have hlv := H2.out.len
          obtain ⟨uu, huu, hue⟩ := H2.out.el m LX HLK.out
          obtain ⟨xu, cu, rfl⟩ := ownsRow_is hue
          have HUE := Lib.hid hue
          have HUU := Lib.hid huu
          have ce3 : wr.cell? ⟨g, m, none⟩ = some (.slice xu LX.length cu) := (H2.out.out.cellAt m (by rw [HLN2.out]; omega)).trans huu
          have hbs3 := HBL.out.size
          clear hue huu hlv
          go_wp2_with (at_builtin; go_loud (refine wpList_append_own_at _ rfl _ _ 22 rfl w1.heap.size 9 i9 (.string ⟨#[]⟩) 1 16 Try.underlying22 HP9.out.1 HP9.out.2.1 HP9.out.2.2.1 HP9.out.2.2.2 rfl (by decide) _ _ _ rfl (HUE.out.alloc _) ⟨wr.heap.size, 0, none⟩ 1 1 [.string U] rfl rfl (cell_one_new _ _ _) (by simp [Value.oneCell']) (by unfold maxLen; omega) (by omega) (by simp; omega) ?_))
          intro v2 w4 ho2 hg2 _ ha2
          obtain ⟨x2, c2, rfl⟩ := ownsRow_is ho2
          have HR4 := Lib.hid (H2.out.app HLK.out HUU.out (by rw [HU.out] at ho2; exact ho2) hg2 ha2)
          have HO4 := Lib.hid (H2.out.kept HUE.out hg2)
          have c4 : w4.cell? ⟨g, m, none⟩ = some (.slice xu LX.length cu) := (HO4.out.cellAt m (by rw [HLN2.out]; omega)).trans HUU.out
          have f4 : w4.frozen? ⟨g, m, none⟩ = false := HO4.out.frozenAt m
          have HB4 : Hid (Below w1.heap.size w1 (w4.setCell ⟨g, m, none⟩ (.slice x2 (LX.length + 1) c2))) := Lib.hid (((HBL.out.alloc HBL.out.size _).grown hg2 (by simp; omega) (fun k e => (HUE.out.lt k e).1)).setCell (p := ⟨g, m, none⟩) (HO4.out.lt g rfl).1 _)
          clear ho2 hg2 ha2 ce3
          go_wp2
          go_roundw
          case rel => exact ⟨j + 1, true, by go_num, by omega, rfl, by rw [HS.out], Lib.hid (by rw [HS.out]; exact ⟨⟨_, by have h := HR4.out; rw [HLN2.out] at h; exact h⟩, HB4.out⟩)⟩
          case measure => simp [intOf]; omega
    · obtain rfl : j = n := by omega
      obtain ⟨vs, h2⟩ := HI.out.ex
      obtain ⟨xv, cv, hxv⟩ := ownsRow_is h2.out
      subst hxv
      have HV : Hid (RowsV wr (.slice xv (wdF (cs.take j)).1.length cv) (wds q)) := Lib.hid (by
        rw [List.take_of_length_le (by have := HN.out; omega), ← HW.out] at h2 ⊢
        have h3 := wdF_len cs
        have h4 := wdF_flat cs
        rw [← HW.out] at h3 h4
        refine h2.view (by have := HN.out; omega) (fun L hL => ?_)
        obtain ⟨m, hm, rfl⟩ := List.getElem_of_mem hL
        have h5 := len_sum (wds q) m hm
        rw [List.getD_eq_getElem?_getD, List.getElem?_eq_getElem hm] at h5
        have h6 : (wds q)[m].length ≤ ((wds q).map List.length).sum := h5
        have := HN.out
        omega)
      have HB := Lib.hid (HBW.out.trans (below_le HI.out.bel HBW.out.size))
      clear HI HOP h2
      generalize (wdF (cs.take j)).1.length = N at HV ⊢
      go_wp2
      go_ret
      exact ⟨_, rfl, HV.out, HB.out⟩
theorem wds_sum (q : Bs) : ((wds q).map List.length).sum ≤ (clS q).length := wdF_flat (clS q)
theorem wds_len (q : Bs) : (wds q).length ≤ (clS q).length := (wdF_len (clS q)).1
/-- Each cluster of a word is one of the query's. -/
theorem wdF_mem (cs : List Bs) : ∀ L ∈ (wdF cs).1, ∀ c ∈ L, c ∈ cs := by
  have : ∀ (cs : List Bs) (s : List (List Bs) × Bool) (T : List Bs), (∀ L ∈ s.1, ∀ c ∈ L, c ∈ T) → ∀ L ∈ (cs.foldl wdR s).1, ∀ c ∈ L, c ∈ T ++ cs := by
    intro cs
    induction cs with
    | nil => intro s T h; simpa using h
    | cons c r ih =>
      intro s T h L hL x hx
      have := ih (wdR s c) (T ++ [c]) (fun L hL x hx => by
        unfold wdR at hL
        split at hL
        · exact List.mem_append_left _ (h L hL x hx)
        · split at hL
          · obtain ⟨m, hm, e⟩ := List.getElem_of_mem hL
            rw [List.getElem_set] at e
            split at e
            · subst e
              rcases List.mem_append.1 hx with q | q
              · refine List.mem_append_left _ ?_
                rw [List.getD_eq_getElem?_getD] at q
                cases hq : s.1[s.1.length - 1]? with
                | none => rw [hq] at q; simp at q
                | some y => rw [hq] at q; exact h y (List.mem_of_getElem? hq) x q
              · exact List.mem_append_right _ q
            · subst e
              exact List.mem_append_left _ (h _ (List.getElem_mem _) x hx)
          · rcases List.mem_append.1 hL with q | q
            · exact List.mem_append_left _ (h L q x hx)
            · simp at q; subst q
              exact List.mem_append_right _ hx) L hL x hx
      simpa using this
  have h := this cs ([], false) [] (by simp)
  simpa [wdF] using h
theorem wds_mem (q : Bs) : ∀ L ∈ wds q, ∀ c ∈ L, c ∈ clS q := wdF_mem (clS q)
theorem wds_flat (q : Bs) (L : List Bs) (hL : L ∈ wds q) : L.flatten.length ≤ 64 * (clS q).length := by
  have h1 := flat_short L (fun c hc => clS_short q c (wds_mem q L hL c hc))
  obtain ⟨m, hm, e⟩ := List.getElem_of_mem hL
  have h5 := len_sum (wds q) m hm
  rw [List.getD_eq_getElem?_getD, List.getElem?_eq_getElem hm] at h5
  have h6 : L.length ≤ ((wds q).map List.length).sum := by rw [← e]; exact h5
  have := wds_sum q
  omega
/-- What Words gives. -/
def WrdEnd (q : Bs) (w : World) (e : Ending) (w' : World) : Prop := ∃ v, e = .returned v ∧ w'.ownsRow w.heap.size 9 1 v (wds q).length (strs ((wds q).map List.flatten)) ∧ Below w.heap.size w w'
end Go.Proofs.Ytdehjofmangmbaa
