/- Walks: a rune added to the builder. -/
import Derived.Test.YtdomglkcfecnnaaGreatH9
namespace Go.Proofs.YtdomglkcfecnnaaGreat
open Go.RowKit Go.Shelf
theorem step_call {P : Program} {ops : Array Oper} {o : Oper} {a : Act} {w : World} {K : Act → World → Prop} {Q : Exit → Act → World → Prop} {E : Prop}
    (hg : o.guard = none) (f : FuncId) (x : Operand) (T : TypeId) (hop : o.op = Op.call { callee := Callee.value (Operand.func f), args := #[x], argTypes := #[T] }) (hent : ∀ args w, (callFunc f args).run P w = .ok (.enter f args) w)
    (v : Value) (hx : a.eval x = v) (hc : Calls P f #[v] w fun e w' => ∃ u, e = .returned u ∧ K (a.put o.dst u) w') :
    if Region.wanted o (yielded ops a.tmps) = true then Oper.wp P o a w K Q else E := by
  have hw : Region.wanted o (yielded ops a.tmps) = true := by simp [Region.wanted, hg]
  rw [if_pos hw]
  have hrun : (execOp a.eval o).run P w = .ok (.enter f #[v]) w := by
    simp [execOp, hop, resolve, invoke, hent, Act.eval, go_sem]
    rw [← hx]
    cases x <;> simp [Act.eval]
  unfold Oper.wp
  rw [hrun, Oper.upon_enter]
  refine hc.mono ?_
  rintro e w' ⟨u, rfl, hk⟩
  exact hk
/-- More bytes to the cluster under way: what stands behind the append. -/
theorem BSt.app1 {B b : Nat} {D : List Bs} {N M : Bs} {o : Bool} {w w2 w' : World} {vd v' : Value} {y : Option Addr} {d : Nat} (hlt : b < B ∧ B ≤ w.heap.size) (hop : o = true → N ++ M ≠ []) (hb : w.heap[b]? = some (.cells #[vd, .slice y N.length d, .bool o] 173 (0, 0))) (hd : w.ownsRow B 9 1 vd D.length (strs D)) (hn : w.ownsRow B 5 1 (.slice y N.length d) N.length (Lib.byteCells N))
    (hbel : Below w.heap.size w w2) (ho : w'.ownsRow B 5 1 v' (N.length + M.length) (Lib.byteCells N ++ Lib.byteCells M)) (hg : w2.grownBy w' (Value.slice y N.length d).ownBlock) :
    w'.heap[b]? = some (.cells #[vd, .slice y N.length d, .bool o] 173 (0, 0)) ∧ BSt B b D (N ++ M) o (w'.setCell ⟨b, 1, none⟩ v') ∧ Stay b B w (w'.setCell ⟨b, 1, none⟩ v') := by
  have hbl : b < w.heap.size := (Array.getElem?_eq_some_iff.1 hb).1
  have hvl : ∀ k, (Value.slice y N.length d).ownBlock = some k → B ≤ k ∧ ∃ cur, w.heap[k]? = some (.cells cur 5 (0, 0)) := fun k hk => by
    refine ⟨(hn.lt k hk).1, ?_⟩
    rcases hn.2 with ⟨hv, _⟩ | ⟨g', cap, cur, hv, _, hg', _⟩
    · rw [hv] at hk; cases hk
    · rw [hv] at hk; cases hk; exact ⟨cur, hg'⟩
  have hold : ∀ k, k < w.heap.size → (Value.slice y N.length d).ownBlock ≠ some k → w'.heap[k]? = w.heap[k]? := fun k hk hne => by
    rw [hg.block k (by have := hbel.size; omega) (fun e => hne e.symm)]
    exact hbel.block k hk
  have hbb := (hold b hbl (fun e => by have := (hvl b e).1; omega)).trans hb
  have hs := set_block (o := 1) hbb v'
  have hsz : w.heap.size ≤ w'.heap.size := Nat.le_trans hbel.size hg.size
  refine ⟨hbb, ⟨⟨vd, v', ?_, ?_, ?_⟩, ⟨hlt.1, by simp; omega⟩, hop⟩, ?_⟩
  · rw [hs]; rfl
  · refine row_kept hd (fun j hj => ?_)
    obtain ⟨h1, h2⟩ := hd.lt j hj
    rw [set_other (by omega)]
    refine hold j h2 (fun e => ?_)
    obtain ⟨_, cur, h3⟩ := hvl j e
    rcases hd.2 with ⟨hv, _⟩ | ⟨g', cap, cur', hv, _, hg', _⟩
    · rw [hv] at hj; cases hj
    · rw [hv] at hj; cases hj; rw [h3] at hg'; cases hg'
  · have h1 : (N ++ M).length = N.length + M.length := by simp
    rw [h1, Lib.byteCells_append]
    exact row_kept ho (fun j hj => set_other (by have := (ho.lt j hj).1; omega))
  · refine Stay.trans ⟨hg.os.trans hbel.os, hg.tape.trans hbel.tape, hg.output.trans hbel.output, hsz, fun j hj _ => hold j (by omega) (fun e => by have := (hvl j e).1; omega), fun j o2 ho2 hc2 => ?_⟩ (Stay.set hbb)
    rw [hold j (Array.getElem?_eq_some_iff.1 ho2).1 (fun e => by obtain ⟨_, cur, h1⟩ := hvl j e; rw [h1] at ho2; cases ho2; cases hc2)]
    exact ho2
/-- The builder is opened. -/
theorem BSt.open {B b : Nat} {D : List Bs} {N : Bs} {o : Bool} {W : World} (h : BSt B b D N o W) (hN : N ≠ []) : (∃ v, W.cell? ⟨b, 2, none⟩ = some v) ∧ W.frozen? ⟨b, 2, none⟩ = false ∧ BSt B b D N true (W.setCell ⟨b, 2, none⟩ (.bool true)) ∧ Stay b B W (W.setCell ⟨b, 2, none⟩ (.bool true)) := by
  obtain ⟨vd, vn, hb, hd, hn⟩ := h.ex
  have hs := set_block (o := 2) hb (.bool true)
  refine ⟨⟨.bool o, by simp [World.cell?, hb]⟩, by simp [World.frozen?, hb], ⟨⟨vd, vn, by rw [hs]; rfl, row_kept hd (fun j hj => set_other (by have := (hd.lt j hj).1; have := h.lt.1; omega)), row_kept hn (fun j hj => set_other (by have := (hn.lt j hj).1; have := h.lt.1; omega))⟩, ⟨h.lt.1, by simpa using h.lt.2⟩, fun _ => hN⟩, Stay.set hb⟩
theorem BSt.kept {B b : Nat} {D : List Bs} {N : Bs} {o : Bool} {W W' : World} (h : BSt B b D N o W) (hb : Below W.heap.size W W') : BSt B b D N o W' := by
  obtain ⟨vd, vn, h1, hd, hn⟩ := h.ex
  exact ⟨⟨vd, vn, (hb.block b (Array.getElem?_eq_some_iff.1 h1).1).trans h1, row_kept hd (fun j hj => hb.block j (hd.lt j hj).2), row_kept hn (fun j hj => hb.block j (hn.lt j hj).2)⟩, ⟨h.lt.1, Nat.le_trans h.lt.2 hb.size⟩, h.op⟩
theorem rb0_len (x : Int) : rb0 x ≠ [] ∧ (rb0 x).length ≤ 4 := by
  unfold rb0
  split
  · simp
  · split
    · simp
    · split <;> simp
theorem rb_ne (r : Int) : rb r ≠ [] := (rb0_len _).1
theorem rb_len (r : Int) : (rb r).length ≤ 4 := (rb0_len _).2
/-- A rune added: the clusters done, the one under way, is it open. -/
def addS (s : List Bs × Bs × Bool) (r : Int) : List Bs × Bs × Bool :=
  if 0 < ofW r then (if s.2.2 = true then s.1 ++ [s.2.1] else s.1, rb r, true)
  else if s.2.2 = true ∧ isMk r = true ∧ s.2.1.length + (rb r).length ≤ 64 then (s.1, s.2.1 ++ rb r, true) else s
theorem byteCells_one (l : Bs) : ∀ u ∈ Lib.byteCells l, u.oneCell' = true := by
  intro u hu
  unfold Lib.byteCells at hu
  obtain ⟨x, _, rfl⟩ := List.mem_map.1 hu
  rfl
theorem row_at {w : World} {g : Nat} {l : Bs} {t : TypeId} (h : w.heap[g]? = some (.cells (Lib.byteCells l).toArray t (0, 0))) : ∀ j u, (Lib.byteCells l)[j]? = some u → w.cell? ((⟨g, 0, none⟩ : Addr).add j) = some u := fun j u hu => by
  have h4 : (⟨g, 0, none⟩ : Addr).add j = ⟨g, j, none⟩ := by by_cases e : j = 0 <;> simp [Addr.add, e]
  rw [h4]
  simpa [World.cell?, h] using hu
set_option maxRecDepth 100000 in
set_option maxHeartbeats 4000000 in
theorem wadd_base (B b : Nat) (D : List Bs) (N : Bs) (o : Bool) (r : Int) (hDl : D.length ≤ 999999) (hbase : 0 < ofW r) (w : World) (h : BSt B b D N o w) :
    Calls Tryz.prog 97 #[.pointer (some ⟨b, 0, none⟩), .int .i32 r] w fun e w' => e = .returned (.tuple #[]) ∧ BSt B b (if o = true then D ++ [N] else D) (rb r) true w' ∧ Stay b B w w' := by
  obtain ⟨i0, hi, hz0, hz1, hz2⟩ := info_parts5
  have HLT := Lib.hid h.lt
  have HB := Lib.hid (wisBase r)
  rw [decide_eq_true hbase] at HB
  have HEND : Hid (∀ W, BSt B b D N o W → Calls Tryz.prog 98 #[.pointer (some ⟨b, 0, none⟩)] W fun e w' => e = .returned (.tuple #[]) ∧ BSt B b (if o = true then D ++ [N] else D) [] false w' ∧ Stay b B W w') := Lib.hid (fun W hW => by
    cases o
    · exact wend0 B b D N W hW
    · exact wend1 B b D N (by omega) W hW)
  have HBY := Lib.hid (wbytes r)
  unfold BytesEnd at HBY
  have HNE := Lib.hid (rb_ne r)
  have HLN := Lib.hid (rb_len r)
  obtain ⟨M, hM⟩ : ∃ M, M = rb r := ⟨_, rfl⟩
  obtain ⟨D2, hD2⟩ : ∃ M, M = (if o = true then D ++ [N] else D) := ⟨_, rfl⟩
  rw [← hM] at HBY HNE HLN ⊢
  rw [← hD2] at HEND ⊢
  have H0 := Lib.hid h
  clear hM hD2 h hbase
  go_enter Tryz.func97, Tryz.ntmps97
  go_wp2_with (first | (go_at_call 126; fail))
  go_at_call 126
  refine (HB.out _).mono ?_
  rintro e w1 ⟨rfl, hb1⟩
  have HW1 := Lib.hid hb1
  clear hb1
  go_wp2_with (first | (go_at_call 98; fail))
  go_at_call 98
  refine (HEND.out _ (H0.out.kept HW1.out)).mono ?_
  rintro e w2 ⟨rfl, hB2, hS2⟩
  have HS2 := Lib.hid ((Stay.of HW1.out H0.out.lt.2).trans hS2)
  have HL2 := Lib.hid hB2.lt
  clear HEND H0 HB HW1 hS2
  obtain ⟨vd, vn, hb, hd, hn⟩ := hB2.ex
  obtain ⟨y, d, rfl⟩ := ownsRow_is hn
  have c1 : w2.cell? ⟨b, 1, none⟩ = some (.slice y 0 d) := by simp [World.cell?, hb]
  have f1 : w2.frozen? ⟨b, 1, none⟩ = false := by simp [World.frozen?, hb]
  have hbl : b < w2.heap.size := (Array.getElem?_eq_some_iff.1 hb).1
  have HA := Lib.hid (fun (w3 w4 : World) (v' : Value) h1 h2 h3 => BSt.app1 (N := []) (M := M) (w := w2) (w2 := w3) (w' := w4) (v' := v') HL2.out (fun h => by cases h) hb hd hn h1 h2 h3)
  have HN2 := Lib.hid (show w2.ownsRow B 5 1 (.slice y 0 d) 0 [] from hn)
  clear hB2 hb hd hn
  go_upto_region 2 with (fail)
  go_region_law (first | (refine step_call rfl 127 (.tmp 14) 21 rfl (enters_of Tryz.func127 (by kernel_rfl) rfl) (.int .i32 r) rfl ?_; refine (HBY.out _).mono ?_; rintro e w3 ⟨g3, rfl, hr3, hge3, hb3⟩; refine ⟨_, rfl, ?_⟩; have HB3 : Hid (Below w2.heap.size w2 w3) := Lib.hid ((Below.refl _ _).drew.trans hb3); have c13 : w3.cell? ⟨b, 1, none⟩ = some (.slice y 0 d) := (HB3.out.cell (p := ⟨b, 1, none⟩) hbl).trans c1; have HR3 := Lib.hid hr3; clear hr3 hge3 hb3) | (refine step_append_own rfl (.tmp 13) (.tmp 15) 37 rfl B 5 i0 (.int .u8 0) 1 1 Tryz.underlying37 hi hz0 hz1 hz2 rfl (by decide) _ _ _ rfl (row_kept HN2.out (fun j hj => HB3.out.block j (HN2.out.lt j hj).2)) ⟨g3, 0, none⟩ M.length M.length (Lib.byteCells M) rfl (by simp [Lib.byteCells]) (row_at HR3.out) (byteCells_one M) (by unfold maxLen; have := HLN.out; omega) (by have := HLN.out; omega) (by have := HL2.out; have := HB3.out.size; omega) ?_; intro v' w4 hown' hgrow' _; obtain ⟨hb', hB', hS'⟩ := HA.out w3 w4 v' HB3.out hown' hgrow'; have HS' := Lib.hid (And.intro hB' hS'); have c14 : w4.cell? ⟨b, 1, none⟩ = some (.slice y 0 d) := (by simp [World.cell?, hb']); have f14 : w4.frozen? ⟨b, 1, none⟩ = false := (by simp [World.frozen?, hb']); obtain ⟨x', c', rfl⟩ := ownsRow_is hown'; clear hb' hB' hS' hown' hgrow'))
  all_goals
    simp only [List.nil_append, Nat.zero_add] at HS'
    clear c1 f1 c13 c14 f14
    generalize w4.setCell ⟨b, 1, none⟩ (Value.slice x' M.length c') = W5 at HS' ⊢
    obtain ⟨⟨v5, c5⟩, f5, hO, hSO⟩ := HS'.out.1.open HNE.out
    have HO := Lib.hid hO
    have HSO := Lib.hid ((HS2.out.trans HS'.out.2).trans hSO)
    clear hO hSO
    go_wp2
    first | go_end0 | refine bodyPost_ret (results_none rfl _ _ _) rfl ?_
    exact ⟨rfl, HO.out, HSO.out⟩
set_option maxRecDepth 100000 in
set_option maxHeartbeats 4000000 in
theorem wadd_mark (B b : Nat) (D : List Bs) (N : Bs) (o : Bool) (r : Int) (hNl : N.length ≤ 1000000) (hbase : ¬ 0 < ofW r) (w : World) (h : BSt B b D N o w) :
    Calls Tryz.prog 97 #[.pointer (some ⟨b, 0, none⟩), .int .i32 r] w fun e w' => e = .returned (.tuple #[]) ∧ BSt B b D (if o = true ∧ isMk r = true ∧ N.length + (rb r).length ≤ 64 then N ++ rb r else N) o w' ∧ Stay b B w w' := by
  obtain ⟨i0, hi, hz0, hz1, hz2⟩ := info_parts5
  have HLT := Lib.hid h.lt
  have HB := Lib.hid (wisBase r)
  rw [decide_eq_false hbase] at HB
  have HMK := Lib.hid (wisMark r)
  have HBY := Lib.hid (wbytes r)
  unfold BytesEnd at HBY
  have HLN := Lib.hid (rb_len r)
  obtain ⟨M, hM⟩ : ∃ M, M = rb r := ⟨_, rfl⟩
  obtain ⟨K, hK⟩ : ∃ M, M = isMk r := ⟨_, rfl⟩
  rw [← hM] at HBY HLN ⊢
  rw [← hK] at HMK ⊢
  have hMl := HLN.out
  obtain ⟨N2, hN2⟩ : ∃ X, X = (if o = true ∧ K = true ∧ N.length + M.length ≤ 64 then N ++ M else N) := ⟨_, rfl⟩
  rw [← hN2]
  have HN2 := Lib.hid hN2
  have H0 := Lib.hid h
  clear hM hK h hbase hN2
  go_enter Tryz.func97, Tryz.ntmps97
  go_wp2_with (first | (go_at_call 126; fail))
  go_at_call 126
  refine (HB.out _).mono ?_
  rintro e w1 ⟨rfl, hb1⟩
  have H1 := Lib.hid (H0.out.kept hb1)
  have HS1 := Lib.hid (Stay.of (b := b) hb1 H0.out.lt.2)
  clear hb1 HB
  obtain ⟨vd, vn, hb, hd, hn⟩ := H1.out.ex
  obtain ⟨y, d, rfl⟩ := ownsRow_is hn
  have c1 : w1.cell? ⟨b, 1, none⟩ = some (.slice y N.length d) := by simp [World.cell?, hb]
  have c2 : w1.cell? ⟨b, 2, none⟩ = some (.bool o) := by simp [World.cell?, hb]
  have hbl : b < w1.heap.size := (Array.getElem?_eq_some_iff.1 hb).1
  have HL1 := Lib.hid H1.out.lt
  have HOP := Lib.hid H1.out.op
  have HA := Lib.hid (fun (w3 w4 : World) (v' : Value) h1 h2 h3 => BSt.app1 (M := M) (w := w1) (w2 := w3) (w' := w4) (v' := v') HL1.out (fun h e => HOP.out h (List.append_eq_nil_iff.1 e).1) hb hd hn h1 h2 h3)
  have HN1 := Lib.hid hn
  clear hb hd hn
  cases o
  · have HV : Hid (N2 = N) := Lib.hid (by have := HN2.out; simpa using this)
    go_wp2
    first | go_end0 | refine bodyPost_ret (results_none rfl _ _ _) rfl ?_
    rw [HV.out]
    exact ⟨rfl, H1.out, HS1.out⟩
  · go_wp2_with (first | (go_at_call 128; fail))
    go_at_call 128
    refine (HMK.out _).mono ?_
    rintro e w2 ⟨rfl, hb2⟩
    have HB2 := Lib.hid hb2
    have c21 : w2.cell? ⟨b, 1, none⟩ = some (.slice y N.length d) := (hb2.cell (p := ⟨b, 1, none⟩) hbl).trans c1
    clear hb2 c1 c2
    cases K
    · have H2 := Lib.hid (And.intro (H1.out.kept HB2.out) (HS1.out.trans (Stay.of (b := b) HB2.out H1.out.lt.2)))
      have HV : Hid (N2 = N) := Lib.hid (by have := HN2.out; simpa using this)
      go_wp2
      first | go_end0 | refine bodyPost_ret (results_none rfl _ _ _) rfl ?_
      rw [HV.out]
      exact ⟨rfl, H2.out.1, H2.out.2⟩
    · go_wp2_with (first | (go_at_call 127; fail))
      go_at_call 127
      refine (HBY.out _).mono ?_
      rintro e w3 ⟨g3, rfl, hr3, hge3, hb3⟩
      have HB3 := Lib.hid (HB2.out.trans (below_le hb3 HB2.out.size))
      have HR3 := Lib.hid hr3
      have c31 : w3.cell? ⟨b, 1, none⟩ = some (.slice y N.length d) := (HB3.out.cell (p := ⟨b, 1, none⟩) hbl).trans (by
        have := HB2.out.cell (p := ⟨b, 1, none⟩) hbl
        rw [← this]; exact c21)
      clear hr3 hge3 hb3 c21
      by_cases h64 : N.length + M.length ≤ 64
      · go_wp2_with (first | (at_builtin; go_loud (refine wpList_append_own _ rfl _ _ 37 rfl B 5 i0 (.int .u8 0) 1 1 Tryz.underlying37 hi hz0 hz1 hz2 rfl (by decide) _ _ _ rfl (row_kept HN1.out (fun j hj => HB3.out.block j (HN1.out.lt j hj).2)) ⟨g3, 0, none⟩ M.length M.length (Lib.byteCells M) rfl (by simp [Lib.byteCells]) (row_at HR3.out) (byteCells_one M) (by unfold maxLen; have := HLN.out; omega) (by have := HLN.out; omega) (by have := HL1.out; have := HB3.out.size; omega) ?_)))
        intro v' w4 hown' hgrow' _
        have HV : Hid (N2 = N ++ M) := Lib.hid (by rw [HN2.out]; simp [h64])
        obtain ⟨hb', hB', hS'⟩ := HA.out w3 w4 v' HB3.out hown' hgrow'
        have HS' := Lib.hid (And.intro hB' (HS1.out.trans hS'))
        have c14 : w4.cell? ⟨b, 1, none⟩ = some (.slice y N.length d) := by simp [World.cell?, hb']
        have f14 : w4.frozen? ⟨b, 1, none⟩ = false := by simp [World.frozen?, hb']
        obtain ⟨x', c', rfl⟩ := ownsRow_is hown'
        clear hb' hB' hS' hown' hgrow' c31
        go_wp2
        first | go_end0 | refine bodyPost_ret (results_none rfl _ _ _) rfl ?_
        rw [HV.out]
        exact ⟨rfl, HS'.out.1, HS'.out.2⟩
      · have H3 := Lib.hid (And.intro (H1.out.kept HB3.out) (HS1.out.trans (Stay.of (b := b) HB3.out H1.out.lt.2)))
        have h64' : ¬ (N.length : Int) + (M.length : Int) ≤ 64 := by omega
        have HV : Hid (N2 = N) := Lib.hid (by rw [HN2.out, if_neg (fun h => h64 h.2.2)])
        go_wp2
        first | go_end0 | refine bodyPost_ret (results_none rfl _ _ _) rfl ?_
        rw [HV.out]
        exact ⟨rfl, H3.out.1, H3.out.2⟩
/-- A rune added. -/
theorem wadd (B b : Nat) (s : List Bs × Bs × Bool) (r : Int) (hDl : s.1.length ≤ 999999) (hNl : s.2.1.length ≤ 1000000) (w : World) (h : BSt B b s.1 s.2.1 s.2.2 w) :
    Calls Tryz.prog 97 #[.pointer (some ⟨b, 0, none⟩), .int .i32 r] w fun e w' => e = .returned (.tuple #[]) ∧ BSt B b (addS s r).1 (addS s r).2.1 (addS s r).2.2 w' ∧ Stay b B w w' := by
  unfold addS
  by_cases h0 : 0 < ofW r
  · rw [if_pos h0]
    exact wadd_base B b s.1 s.2.1 s.2.2 r hDl h0 w h
  · rw [if_neg h0]
    refine (wadd_mark B b s.1 s.2.1 s.2.2 r hNl h0 w h).mono ?_
    rintro e w' ⟨h1, h2, h3⟩
    refine ⟨h1, ?_, h3⟩
    split
    · rename_i hc
      rw [if_pos hc, hc.1] at h2
      exact h2
    · rename_i hc
      rw [if_neg hc] at h2
      exact h2
end Go.Proofs.YtdomglkcfecnnaaGreat
