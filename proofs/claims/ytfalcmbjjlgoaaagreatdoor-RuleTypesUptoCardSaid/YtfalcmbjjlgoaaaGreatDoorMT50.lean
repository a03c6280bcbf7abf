/- Own texts, merged: TG. -/
import Derived.Test.YtfalcmbjjlgoaaaGreatDoorRows
import Derived.Deep.Slices
import Derived.ChangeArms
import Derived.WideShapes
import Derived.RowKit
import Derived.Test.YtfalcmbjjlgoaaaGreatDoorMT46
import Derived.Test.YtfalcmbjjlgoaaaGreatDoorMT49
/- A tree and binds as arguments. -/
namespace Go.Proofs.YtfalcmbjjlgoaaaGreatDoor
open Go.RowKit Go.Shelf Go.ChangeShapes Go.WideShapes Go.Deep
section
variable {H : Type} {enc : TypeId × Value → H} {P : Program} {w : World} {base : Nat} {spare : Nat → Bool} {held : Bool}
theorem trod_float {t : TypeId} {fuel : Nat} {cs : List Value} {x : DataW H × List MemPlace} {k : FloatKind} (ht : P.underlying t = some (.float k)) (h : DataW.trod enc P w base spare held fuel t cs = some x) : ∃ n, cs = [.float k n] ∧ x = (.lit (.float k n), []) ∧ (Lit.float k n).wf = true := by
  cases fuel with
  | zero => simp [DataW.trod] at h
  | succ n =>
    unfold DataW.trod at h
    rw [ht] at h
    split at h <;> simp_all
theorem one_leB (d : DataW H) : 1 ≤ Rows.uptoBulk d := by
  cases d with
  | lit l => cases l <;> simp [Rows.uptoBulk]
  | nil => simp [Rows.uptoBulk]
  | ptr d => simp [Rows.uptoBulk]
  | slice elems spare => simp [Rows.uptoBulk]
  | agg parts => simp [Rows.uptoBulk]
  | iface t d => simp [Rows.uptoBulk]
  | map entries => simp [Rows.uptoBulk]
  | held h => simp [Rows.uptoBulk]
theorem part_leB {d : DataW H} {l : List (DataW H)} (h : d ∈ l) : Rows.uptoBulk d ≤ Rows.uptoBulkAll l := by
  induction l with
  | nil => cases h
  | cons x r ih =>
    simp only [Rows.uptoBulkAll]
    cases List.mem_cons.1 h with
    | inl e => subst e; omega
    | inr e => have := ih e; omega
theorem len_leB (l : List (DataW H)) : l.length ≤ Rows.uptoBulkAll l := by
  induction l with
  | nil => simp [Rows.uptoBulkAll]
  | cons x r ih => have := one_leB x; simp only [Rows.uptoBulkAll, List.length_cons]; omega
theorem bkL_map (F : Nat → Tree) (D : Nat → DataW H) : ∀ L : List Nat, (∀ i ∈ L, bkT (F i) ≤ Rows.uptoBulk (D i)) → bkL (L.map F) ≤ Rows.uptoBulkAll (L.map D)
  | [], _ => by simp [bkL]
  | i :: r, h => by
    have h1 := h i (by simp)
    have h2 := bkL_map F D r (fun j hj => h j (by simp [hj]))
    simp only [List.map_cons, bkL, Rows.uptoBulkAll]
    omega
theorem nbL_map (F : Nat → Tree) : ∀ L : List Nat, (∀ i ∈ L, nbT (F i)) → nbL (L.map F)
  | [], _ => by simp [nbL]
  | i :: r, h => ⟨h i (by simp), nbL_map F r (fun j hj => h j (by simp [hj]))⟩
/-- A row of trees out of its places. -/
theorem nodes_of_get {A : Nat → Prop} {a : Addr} : ∀ (l : List Tree) (i : Nat), (∀ j t, l[j]? = some t → ∃ v0 v1 v2 v3, w.cell? (a.add ((i + j) * 4)) = some v0 ∧ w.cell? (a.add ((i + j) * 4 + 1)) = some v1 ∧ w.cell? (a.add ((i + j) * 4 + 2)) = some v2 ∧ w.cell? (a.add ((i + j) * 4 + 3)) = some v3 ∧ NodeV A w (.agg #[v0, v1, v2, v3]) t) → NodesV A w a i l
  | [], _, _ => trivial
  | t :: r, i, h => ⟨h 0 t rfl, nodes_of_get r (i + 1) (fun j u hj => by have := h (j + 1) u (by simpa using hj); rwa [show i + (j + 1) = i + 1 + j by omega] at this)⟩
theorem cells4 {a : Addr} {v0 v1 v2 v3 : Value} {k : Nat} (h : w.cells? base (a.add k) 4 = some [v0, v1, v2, v3]) : w.cell? (a.add k) = some v0 ∧ w.cell? (a.add (k + 1)) = some v1 ∧ w.cell? (a.add (k + 2)) = some v2 ∧ w.cell? (a.add (k + 3)) = some v3 := by
  obtain ⟨_, _, hc⟩ := World.cells?_some h
  have h0 := hc 0 (by omega)
  have h1 := hc 1 (by omega)
  have h2 := hc 2 (by omega)
  have h3 := hc 3 (by omega)
  simp only [add_add] at h0 h1 h2 h3
  exact ⟨h0, h1, h2, h3⟩
theorem cells5 {a : Addr} {v0 v1 v2 v3 v4 : Value} {k : Nat} (h : w.cells? base (a.add k) 5 = some [v0, v1, v2, v3, v4]) : w.cell? (a.add k) = some v0 ∧ w.cell? (a.add (k + 1)) = some v1 ∧ w.cell? (a.add (k + 2)) = some v2 ∧ w.cell? (a.add (k + 3)) = some v3 ∧ w.cell? (a.add (k + 4)) = some v4 := by
  obtain ⟨_, _, hc⟩ := World.cells?_some h
  have h0 := hc 0 (by omega)
  have h1 := hc 1 (by omega)
  have h2 := hc 2 (by omega)
  have h3 := hc 3 (by omega)
  have h4 := hc 4 (by omega)
  simp only [add_add] at h0 h1 h2 h3 h4
  exact ⟨h0, h1, h2, h3, h4⟩
set_option maxRecDepth 100000 in
set_option maxHeartbeats 4000000 in
theorem node_of_trod : ∀ (N fuel : Nat) (cs : List Value) (d : DataW H) (pl : List MemPlace), Rows.uptoBulk d ≤ N → DataW.trod enc Tryz.prog w base spare held fuel 25 cs = some (d, pl) →
    ∃ v0 v1 v2 v3 t, cs = [v0, v1, v2, v3] ∧ NodeV (fun _ => True) w (.agg #[v0, v1, v2, v3]) t ∧ nbT t ∧ bkT t ≤ Rows.uptoBulk d := by
  intro N
  induction N with
  | zero => intro fuel cs d pl hd; have := one_leB d; omega
  | succ N ih =>
    intro fuel cs d pl hd h
    obtain ⟨xs, n, _, hx, hl, hn, hf⟩ := DataW.trod_struct Tryz.underlying25 h
    have hc : Tryz.prog.cellsOf 25 = 4 := by kernel_rfl
    have c9 : Tryz.prog.cellsOf 9 = 1 := by kernel_rfl
    have c23 : Tryz.prog.cellsOf 22 = 1 := by kernel_rfl
    have c24 : Tryz.prog.cellsOf 23 = 1 := by kernel_rfl
    rw [hc] at hl
    have hd2 : d = .agg (xs.map (·.1)) := congrArg Prod.fst hx
    clear hx
    match cs, hl with
    | [v0, v1, v2, v3], _ =>
      have h0 := hf 0 ⟨"Op", 9, 0, false, "", "", 0⟩ rfl
      have h1 := hf 1 ⟨"N", 22, 1, false, "", "", 16⟩ rfl
      have h2 := hf 2 ⟨"S", 9, 2, false, "", "", 24⟩ rfl
      have h3 := hf 3 ⟨"L", 23, 3, false, "", "", 40⟩ rfl
      simp only [List.size_toArray, List.length_cons, List.length_nil] at hn
      match xs, hn with
      | [x0, x1, x2, x3], _ =>
        simp only [c9, c23, c24, List.drop_zero, List.take_succ_cons, List.take_zero, List.drop_succ_cons, List.getElem?_cons_zero, List.getElem?_cons_succ] at h0 h1 h2 h3
        obtain ⟨sop, ha, hb, _⟩ := DataW.trod_string Tryz.underlying9 h0
        obtain ⟨fn, hfa, hfb, hfw⟩ := trod_float Tryz.underlying22 h1
        obtain ⟨ss, hsa, hsb, _⟩ := DataW.trod_string Tryz.underlying9 h2
        cases ha; cases hfa; cases hsa
        subst hb; subst hfb; subst hsb
        have hfn : fn < 2 ^ 64 := by simpa [Lit.wf] using hfw
        rcases open_slice Tryz.underlying23 h3 with ⟨hcs, hx3⟩ | ⟨a, len, cap, m, nn, D, Pl, hcs, _, hl, hm, hmm, hx3, hx⟩
        · cases hcs
          subst hx3
          refine ⟨_, _, _, _, .mk sop.data.toList fn ss.data.toList [], rfl, ⟨none, 0, by rw [tx_data, tx_data]; rfl, Nat.le_refl _, fun _ => rfl, fun a ha => by cases ha⟩, ⟨hfn, trivial⟩, ?_⟩
          subst hd2
          simp [bkT, bkL, Rows.uptoBulk, Rows.uptoBulkAll]
          omega
        · cases hcs
          subst hx3
          rw [hc] at hx
          have hlm : len ≤ m := by rw [hmm]; split <;> omega
          have hbd : Rows.uptoBulk d = (sop.data.toList.length + 1) + (1 + ((ss.data.toList.length + 1) + (Rows.uptoBulkAll ((List.range len).map D) + Rows.uptoBulkAll ((List.range (m - len)).map fun j => D (len + j)) + 1 + 0))) + 1 := by
            subst hd2
            simp [Rows.uptoBulk, Rows.uptoBulkAll]
          have one : ∀ i, i < len → ∃ t : Tree, ∃ v0 v1 v2 v3, w.cell? (a.add (i * 4)) = some v0 ∧ w.cell? (a.add (i * 4 + 1)) = some v1 ∧ w.cell? (a.add (i * 4 + 2)) = some v2 ∧ w.cell? (a.add (i * 4 + 3)) = some v3 ∧ NodeV (fun _ => True) w (.agg #[v0, v1, v2, v3]) t ∧ nbT t ∧ bkT t ≤ Rows.uptoBulk (D i) := fun i hi => by
            obtain ⟨cs', g1, g2⟩ := hx i (by omega)
            have hbi : Rows.uptoBulk (D i) ≤ Rows.uptoBulkAll ((List.range len).map D) := part_leB (List.mem_map.2 ⟨i, by simpa using hi, rfl⟩)
            obtain ⟨u0, u1, u2, u3, t, rfl, q1, q2, q3⟩ := ih nn cs' (D i) (Pl i) (by omega) g2
            obtain ⟨e0, e1, e2, e3⟩ := cells4 g1
            exact ⟨t, u0, u1, u2, u3, e0, e1, e2, e3, q1, q2, q3⟩
          haveI : Inhabited Tree := ⟨.mk [] 0 [] []⟩
          obtain ⟨F, hF⟩ := choose_lt one
          have hlen : ((List.range len).map F).length = len := by simp
          refine ⟨_, _, _, _, .mk sop.data.toList fn ss.data.toList ((List.range len).map F), rfl, ⟨some a, cap, by rw [tx_data, tx_data, hlen], by rw [hlen]; exact hl, (fun e => by cases e), fun b hb => ?_⟩, ⟨hfn, nbL_map F _ (fun i hi => ?_)⟩, ?_⟩
          · cases hb
            refine ⟨fun hne => ⟨trivial, ?_⟩, nodes_of_get _ 0 (fun j t hj => ?_)⟩
            · have hp : 0 < len := by
                rcases Nat.eq_zero_or_pos len with e | e
                · subst e; exact absurd rfl hne
                · exact e
              obtain ⟨_, _, _, _, e0, _⟩ := hF 0 hp
              have := cell_lt e0
              rwa [add_block] at this
            · obtain ⟨hj1, hj2⟩ := List.getElem?_eq_some_iff.1 hj
              rw [hlen] at hj1
              simp only [List.getElem_map, List.getElem_range] at hj2
              subst hj2
              obtain ⟨u0, u1, u2, u3, e0, e1, e2, e3, q1, _, _⟩ := hF j hj1
              rw [Nat.zero_add]
              exact ⟨u0, u1, u2, u3, e0, e1, e2, e3, q1⟩
          · obtain ⟨_, _, _, _, _, _, _, _, _, q, _⟩ := hF i (by simpa using hi)
            exact q
          · have := bkL_map F D (List.range len) (fun i hi => by obtain ⟨_, _, _, _, _, _, _, _, _, _, q⟩ := hF i (by simpa using hi); exact q)
            rw [hbd]
            simp only [bkT]
            omega
set_option maxRecDepth 100000 in
set_option maxHeartbeats 4000000 in
theorem bind_of_trod {fuel : Nat} {cs : List Value} {x : DataW H × List MemPlace} (h : DataW.trod enc Tryz.prog w base spare held fuel 53 cs = some x) :
    ∃ b : Bnd, cs = [.string (tx b.nm), .int .i64 b.v.t, .float .f64 b.v.n, .string (tx b.v.s), .bool b.v.b] ∧ b.v.n < 2 ^ 64 := by
  obtain ⟨xs, n, _, _, hl, hn, hf⟩ := DataW.trod_struct Tryz.underlying53 h
  have hc : Tryz.prog.cellsOf 53 = 5 := by kernel_rfl
  have c9 : Tryz.prog.cellsOf 9 = 1 := by kernel_rfl
  have c40 : Tryz.prog.cellsOf 51 = 4 := by kernel_rfl
  have c38 : Tryz.prog.cellsOf 38 = 1 := by kernel_rfl
  have c23 : Tryz.prog.cellsOf 22 = 1 := by kernel_rfl
  have c4 : Tryz.prog.cellsOf 4 = 1 := by kernel_rfl
  rw [hc] at hl
  match cs, hl with
  | [v0, v1, v2, v3, v4], _ =>
    have h0 := hf 0 ⟨"Name", 9, 0, false, "", "", 0⟩ rfl
    have h1 := hf 1 ⟨"V", 51, 1, false, "", "", 16⟩ rfl
    simp only [List.size_toArray, List.length_cons, List.length_nil] at hn
    match xs, hn with
    | [x0, x1], _ =>
      simp only [c9, c40, List.drop_zero, List.take_succ_cons, List.take_zero, List.drop_succ_cons, List.getElem?_cons_zero, List.getElem?_cons_succ] at h0 h1
      obtain ⟨nm, ha, _, _⟩ := DataW.trod_string Tryz.underlying9 h0
      cases ha
      obtain ⟨ys, n2, _, _, hl2, hn2, hf2⟩ := DataW.trod_struct Tryz.underlying51 h1
      have g0 := hf2 0 ⟨"T", 38, 0, false, "", "", 0⟩ rfl
      have g1 := hf2 1 ⟨"N", 22, 1, false, "", "", 8⟩ rfl
      have g2 := hf2 2 ⟨"S", 9, 2, false, "", "", 16⟩ rfl
      have g3 := hf2 3 ⟨"B", 4, 3, false, "", "", 32⟩ rfl
      simp only [List.size_toArray, List.length_cons, List.length_nil] at hn2
      match ys, hn2 with
      | [y0, y1, y2, y3], _ =>
        simp only [c9, c38, c23, c4, List.drop_zero, List.take_succ_cons, List.take_zero, List.drop_succ_cons, List.getElem?_cons_zero, List.getElem?_cons_succ] at g0 g1 g2 g3
        obtain ⟨t, ha, _, _⟩ := DataW.trod_int Tryz.underlying38 g0
        obtain ⟨fn, hb, _, hw⟩ := trod_float Tryz.underlying22 g1
        obtain ⟨s, hs, _, _⟩ := DataW.trod_string Tryz.underlying9 g2
        obtain ⟨b, hbb, _⟩ := DataW.trod_bool Tryz.underlying4 g3
        cases ha; cases hb; cases hs; cases hbb
        exact ⟨⟨nm.data.toList, ⟨t, fn, s.data.toList, b⟩⟩, by simp only [tx_data], by simpa [Lit.wf] using hw⟩
set_option maxRecDepth 100000 in
set_option maxHeartbeats 4000000 in
theorem binds_of_trod {fuel : Nat} {v : Value} {d : DataW H} {pl : List MemPlace} (h : DataW.trod enc Tryz.prog w base spare held fuel 35 [v] = some (d, pl)) :
    ∃ L, BndV w v L ∧ (∀ b ∈ L, b.v.n < 2 ^ 64) ∧ L.length ≤ Rows.uptoBulk d := by
  have hc : Tryz.prog.cellsOf 53 = 5 := by kernel_rfl
  rcases open_slice Tryz.underlying35 h with ⟨hcs, hx3⟩ | ⟨a, len, cap, m, nn, D, Pl, hcs, _, hl, hm, hmm, hx3, hx⟩
  · cases hcs
    exact ⟨[], BndV.nil w, (fun b hb => by cases hb), Nat.zero_le _⟩
  · cases hcs
    cases hx3
    rw [hc] at hx
    have hlm : len ≤ m := by rw [hmm]; split <;> omega
    have one : ∀ i, i < len → ∃ b : Bnd, (w.cell? (a.add (i * 5)) = some (.string (tx b.nm)) ∧ w.cell? (a.add (i * 5 + 1)) = some (.int .i64 b.v.t) ∧ w.cell? (a.add (i * 5 + 2)) = some (.float .f64 b.v.n) ∧ w.cell? (a.add (i * 5 + 3)) = some (.string (tx b.v.s)) ∧ w.cell? (a.add (i * 5 + 4)) = some (.bool b.v.b)) ∧ b.v.n < 2 ^ 64 := fun i hi => by
      obtain ⟨cs', g1, g2⟩ := hx i (by omega)
      obtain ⟨b, rfl, hb⟩ := bind_of_trod g2
      exact ⟨b, cells5 g1, hb⟩
    haveI : Inhabited Bnd := ⟨⟨[], ⟨0, 0, [], false⟩⟩⟩
    obtain ⟨F, hF⟩ := choose_lt one
    have hlen : ((List.range len).map F).length = len := by simp
    refine ⟨(List.range len).map F, ⟨some a, cap, by rw [hlen], by rw [hlen]; exact hl, (fun e => by cases e), fun b hb => ?_⟩, fun b hb => ?_, ?_⟩
    · cases hb
      refine ⟨fun hne => ?_, fun i b hi => ?_⟩
      · have hp : 0 < len := by
          rcases Nat.eq_zero_or_pos len with e | e
          · subst e; exact absurd rfl hne
          · exact e
        obtain ⟨⟨e0, _⟩, _⟩ := hF 0 hp
        have := cell_lt e0
        rwa [add_block] at this
      · obtain ⟨hj1, hj2⟩ := List.getElem?_eq_some_iff.1 hi
        rw [hlen] at hj1
        simp only [List.getElem_map, List.getElem_range] at hj2
        subst hj2
        exact (hF i hj1).1
    · obtain ⟨i, hi, rfl⟩ := List.mem_map.1 hb
      exact (hF i (by simpa using hi)).2
    · rw [hlen]
      have h1 := len_leB ((List.range len).map D)
      simp only [List.length_map, List.length_range] at h1
      simp only [Rows.uptoBulk]
      omega
end
set_option maxRecDepth 100000 in
theorem node_of_arg {H : Type} {enc : TypeId × Value → H} {w : World} {r : Reach} {b0 base : Nat} {spare : Nat → Bool} {held : Bool} {v : Value} {d : DataW H} {p : List MemPlace} (hv : Value.okWide Tryz.prog w r b0 25 v) (h : DataW.Trod enc Tryz.prog w base spare held 25 v d p) :
    ∃ t, NodeV (fun _ => True) w v t ∧ nbT t ∧ bkT t ≤ Rows.uptoBulk d := by
  obtain ⟨cs, rfl, _⟩ := okWide_struct Tryz.underlying25 hv
  obtain ⟨fuel, hf⟩ := h
  obtain ⟨v0, v1, v2, v3, t, e, h1, h2, h3⟩ := node_of_trod _ fuel _ d p (Nat.le_refl _) hf
  obtain rfl : cs = #[v0, v1, v2, v3] := by
    have e' : cs.toList = [v0, v1, v2, v3] := by simpa [Value.cells] using e
    cases cs; simp_all
  exact ⟨t, h1, h2, h3⟩
set_option maxRecDepth 100000 in
theorem binds_of_arg {H : Type} {enc : TypeId × Value → H} {w : World} {r : Reach} {b0 base : Nat} {spare : Nat → Bool} {held : Bool} {v : Value} {d : DataW H} {p : List MemPlace} (hv : Value.okWide Tryz.prog w r b0 35 v) (h : DataW.Trod enc Tryz.prog w base spare held 35 v d p) :
    ∃ L, BndV w v L ∧ (∀ b ∈ L, b.v.n < 2 ^ 64) ∧ L.length ≤ Rows.uptoBulk d := by
  obtain ⟨a, n, cap, rfl⟩ := okWide_slice Tryz.underlying35 hv
  obtain ⟨fuel, hf⟩ := h
  exact binds_of_trod (v := .slice a n cap) (by simpa [Value.cells] using hf)
end Go.Proofs.YtfalcmbjjlgoaaaGreatDoor
