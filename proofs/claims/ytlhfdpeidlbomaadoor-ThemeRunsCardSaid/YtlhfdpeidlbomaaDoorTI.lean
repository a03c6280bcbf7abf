/- Walks: the string builder's copy check and WriteString at this program's numbers. -/
import Derived.Test.YtlhfdpeidlbomaaDoorTG
import Derived.Shelf.Strings.Builder1
import Derived.Maps.AppendAt
import Derived.RangeFuncOwn
namespace Go.Proofs.YtlhfdpeidlbomaaDoor
open Go.RowKit Go.Shelf

set_option maxRecDepth 100000 in
set_option maxHeartbeats 2000000 in
theorem copyCheckUsed (b : Nat) (w : World) (h0 : w.cell? ⟨b, 0, none⟩ = some (.pointer (some ⟨b, 0, none⟩))) :
    Calls Tryd.prog 47 #[.pointer (some ⟨b, 0, none⟩)] w fun e w' => e = .returned (.tuple #[]) ∧ w' = w := by
  obtain ⟨j, hj, _⟩ := Option.map_eq_some_iff.1 Tryd.Builder_Extra_169.sizeBuilder
  go_enter Tryd.func47, Tryd.ntmps47
  go_wp2
  rw [Lib.run_neq_ptr_same w _ Tryd.underlying74 hj]
  simp only [Result.andThen]
  rw [Oper.upon_value]
  go_wp2
  go_end0
  exact ⟨rfl, rfl⟩

set_option maxRecDepth 100000 in
set_option maxHeartbeats 2000000 in
theorem copyCheckFresh (b : Nat) (w : World) (h0 : w.cell? ⟨b, 0, none⟩ = some (.pointer none)) (hsh : w.shape? b = some (77, 2)) (hfz : w.frozen? ⟨b, 0, none⟩ = false) :
    Calls Tryd.prog 47 #[.pointer (some ⟨b, 0, none⟩)] w fun e w' => e = .returned (.tuple #[]) ∧ w' = w.setCell ⟨b, 0, none⟩ (.pointer (some ⟨b, 0, none⟩)) := by
  obtain ⟨j, hj, hjs⟩ := Option.map_eq_some_iff.1 Tryd.Builder_Extra_169.sizeBuilder
  go_enter Tryd.func47, Tryd.ntmps47
  go_wp2
  rw [Lib.run_to_unsafe w ⟨b, 0, none⟩ Tryd.underlying74 Tryd.underlying99 hj (by rw [hjs]; decide) hsh (Nat.zero_lt_succ 1)]
  simp only [Result.andThen]
  rw [Oper.upon_value]
  go_wp2
  rw [run_callFunc_extern Tryd.func54 (by kernel_rfl) (by kernel_rfl) (by kernel_rfl) (e := Extern.AbiNoEscape.same) (by kernel_rfl)]
  rw [Lib.run_noEscape]
  simp only [Result.andThen]
  rw [Oper.upon_value]
  go_wp2
  rw [Lib.run_from_unsafe w ⟨b, 0, none⟩ Tryd.underlying99 Tryd.underlying74 hj hsh Tryd.Builder_Extra_169.liesBuilder]
  simp only [Result.andThen]
  rw [Oper.upon_value]
  go_wp2
  go_end0
  exact ⟨rfl, rfl⟩

theorem copyCheck2 (b : Nat) (bs : List Value) (w : World) (h : Lib.IsBuilder 77 5 b b bs w) :
    Calls Tryd.prog 47 #[.pointer (some ⟨b, 0, none⟩)] w fun e w' => e = .returned (.tuple #[]) ∧ Lib.BuilderAt 77 5 b b (.pointer (some ⟨b, 0, none⟩)) bs w' ∧ (w' = w ∨ w' = w.setCell ⟨b, 0, none⟩ (.pointer (some ⟨b, 0, none⟩))) := by
  rcases h with h | h
  · refine (copyCheckFresh b w h.cell0 h.shape h.frozen0).mono ?_
    rintro e w' ⟨rfl, rfl⟩
    exact ⟨rfl, h.used _, .inr rfl⟩
  · refine (copyCheckUsed b w h.cell0).mono ?_
    rintro e w' ⟨rfl, rfl⟩
    exact ⟨rfl, h, .inl rfl⟩
/-- A builder of the call's own: its box b, its bytes in a row from block B on. -/
structure Bld (w : World) (b B : Nat) (bs : List Value) : Prop where
  at_ : Lib.IsBuilder 77 5 b b bs w
  row : ∃ av v, w.heap[b]? = some (.cells #[av, v] 77 (0, 0)) ∧ w.ownsRow B 5 1 v bs.length bs
  lt : b < B ∧ B ≤ w.heap.size
/-- All but one block below B stand. -/
structure Stay (b B : Nat) (w w' : World) : Prop where
  os : w'.os = w.os
  tape : w'.tape = w.tape
  output : w'.output = w.output
  size : w.heap.size ≤ w'.heap.size
  block : ∀ j, j < B → j ≠ b → w'.heap[j]? = w.heap[j]?
  same : ∀ (j : Nat) (o : Obj), w.heap[j]? = some o → o.isCells = false → w'.heap[j]? = some o
theorem Stay.refl (b B : Nat) (w : World) : Stay b B w w := ⟨rfl, rfl, rfl, Nat.le_refl _, fun _ _ _ => rfl, fun _ _ h _ => h⟩
theorem Stay.trans {b B : Nat} {w w1 w2 : World} (h : Stay b B w w1) (k : Stay b B w1 w2) : Stay b B w w2 := ⟨k.os.trans h.os, k.tape.trans h.tape, k.output.trans h.output, Nat.le_trans h.size k.size, fun j hj hne => (k.block j hj hne).trans (h.block j hj hne), fun j o ho hc => k.same j o (h.same j o ho hc) hc⟩
theorem Stay.of {b B : Nat} {w w1 : World} (h : Below w.heap.size w w1) (hB : B ≤ w.heap.size) : Stay b B w w1 := ⟨h.os, h.tape, h.output, h.size, fun j hj _ => h.block j (by omega), fun j o ho _ => (h.block j (Array.getElem?_eq_some_iff.1 ho).1).trans ho⟩
theorem Stay.below {b B : Nat} {w w1 : World} (h : Stay b B w w1) (hb : b ≤ B) : Below b w w1 := ⟨h.os, h.tape, h.output, h.size, fun j hj => h.block j (by omega) (by omega)⟩
theorem Bld.new (w : World) : Bld (w.alloc (.cells #[.pointer none, .slice none 0 0] 77)) w.heap.size (w.heap.size + 1) [] :=
  ⟨Or.inl ⟨Nat.le_refl _, _, heap_alloc_new _ _, ⟨rfl, .inl ⟨rfl, rfl⟩⟩, by simp [Value.ownBlock]⟩, ⟨_, _, heap_alloc_new _ _, ⟨rfl, .inl ⟨rfl, rfl⟩⟩⟩, by simp, by simp⟩
theorem row_kept {w w' : World} {n0 : Nat} {e : TypeId} {z n : Nat} {v : Value} {xs : List Value} (h : w.ownsRow n0 e z v n xs) (hk : ∀ j, v.ownBlock = some j → w'.heap[j]? = w.heap[j]?) : w'.ownsRow n0 e z v n xs := by
  refine ⟨h.1, ?_⟩
  rcases h.2 with q | ⟨g, cap, cur, rfl, hb, hg, r⟩
  · exact .inl q
  · exact .inr ⟨g, cap, cur, rfl, hb, (hk g rfl).trans hg, r⟩
theorem row_cells {w : World} {n0 : Nat} {e : TypeId} {z n : Nat} {v : Value} {xs : List Value} (h : w.ownsRow n0 e z v n xs) {j : Nat} (hj : v.ownBlock = some j) : ∃ cur, w.heap[j]? = some (.cells cur e (0, 0)) := by
  rcases h.2 with ⟨rfl, _⟩ | ⟨g, cap, cur, rfl, hb, hg, _⟩
  · simp [Value.ownBlock] at hj
  · obtain rfl : g = j := by simpa [Value.ownBlock] using hj
    exact ⟨cur, hg⟩
theorem row_keptB {w w' : World} {n0 : Nat} {e : TypeId} {z n : Nat} {v : Value} {xs : List Value} (h : w.ownsRow n0 e z v n xs) (hk : ∀ j, j < w.heap.size → w'.heap[j]? = w.heap[j]?) : w'.ownsRow n0 e z v n xs :=
  row_kept h (fun j hj => hk j (h.lt j hj).2)
theorem bld_kept {T e : TypeId} {B b : Nat} {bs : List Value} {w w' : World} (h : Lib.IsBuilder T e B b bs w) (hb : Below w.heap.size w w') : Lib.IsBuilder T e B b bs w' := by
  rcases h with h | h
  · obtain ⟨h1, v, h2, h3, h4⟩ := h
    exact Or.inl ⟨h1, v, (hb.block b (Array.getElem?_eq_some_iff.1 h2).1).trans h2, row_keptB h3 hb.block, h4⟩
  · obtain ⟨h1, v, h2, h3, h4⟩ := h
    exact Or.inr ⟨h1, v, (hb.block b (Array.getElem?_eq_some_iff.1 h2).1).trans h2, row_keptB h3 hb.block, h4⟩
theorem Bld.kept {w w' : World} {b B : Nat} {bs : List Value} (h : Bld w b B bs) (hb : Below w.heap.size w w') : Bld w' b B bs := by
  obtain ⟨av, v, h1, h2⟩ := h.row
  exact ⟨bld_kept h.at_ hb, ⟨av, v, (hb.block b (Array.getElem?_eq_some_iff.1 h1).1).trans h1, row_keptB h2 hb.block⟩, h.lt.1, Nat.le_trans h.lt.2 hb.size⟩
/-- Blocks of cells stand. -/
def CellsKept (w w' : World) : Prop := w.heap.size ≤ w'.heap.size ∧ ∀ (j : Nat) (o : Obj), w.heap[j]? = some o → o.isCells = true → w'.heap[j]? = w.heap[j]?
theorem row_keptC {w w' : World} {n0 : Nat} {e : TypeId} {z n : Nat} {v : Value} {xs : List Value} (h : w.ownsRow n0 e z v n xs) (hk : CellsKept w w') : w'.ownsRow n0 e z v n xs :=
  row_kept h (fun j hj => by obtain ⟨cur, hc⟩ := row_cells h hj; exact hk.2 j _ hc rfl)
theorem bld_keptC {T e : TypeId} {B b : Nat} {bs : List Value} {w w' : World} (h : Lib.IsBuilder T e B b bs w) (hk : CellsKept w w') : Lib.IsBuilder T e B b bs w' := by
  rcases h with h | h
  · obtain ⟨h1, v, h2, h3, h4⟩ := h
    exact Or.inl ⟨h1, v, (hk.2 b _ h2 rfl).trans h2, row_keptC h3 hk, h4⟩
  · obtain ⟨h1, v, h2, h3, h4⟩ := h
    exact Or.inr ⟨h1, v, (hk.2 b _ h2 rfl).trans h2, row_keptC h3 hk, h4⟩
theorem Bld.keptC {w w' : World} {b B : Nat} {bs : List Value} (h : Bld w b B bs) (hk : CellsKept w w') : Bld w' b B bs := by
  obtain ⟨av, v, h1, h2⟩ := h.row
  exact ⟨bld_keptC h.at_ hk, ⟨av, v, (hk.2 b _ h1 rfl).trans h1, row_keptC h2 hk⟩, h.lt.1, Nat.le_trans h.lt.2 hk.1⟩
/-- The row's first block may be raised while it is empty of a block. -/
theorem Bld.raise {w : World} {b B B' : Nat} (h : Bld w b B []) (hn : ∀ av v, w.heap[b]? = some (.cells #[av, v] 77 (0, 0)) → v = .slice none 0 0) (hB : B ≤ B') (hs : B' ≤ w.heap.size) : Bld w b B' [] := by
  obtain ⟨av, v, h1, h2⟩ := h.row
  obtain rfl := hn av v h1
  exact ⟨h.at_, ⟨av, _, h1, ⟨rfl, .inl ⟨rfl, rfl⟩⟩⟩, by have := h.lt; omega, hs⟩
set_option maxRecDepth 100000 in
set_option maxHeartbeats 2000000 in
theorem wwrite (b B : Nat) (bs : List Value) (s : ByteArray) (w : World) (h : Bld w b B bs) (hlen : bs.length + s.size ≤ 1000000) :
    Calls Tryd.prog 35 #[.pointer (some ⟨b, 0, none⟩), .string s] w fun e w' => e = .returned (.tuple #[.int .i64 s.size, .nilIface]) ∧ Bld w' b B (bs ++ Lib.strCells s) ∧ Stay b B w w' := by
  obtain ⟨i0, hi, hz0, hz1, hz2⟩ := info_parts Tryd.Builder_Extra_169.infoByte
  obtain ⟨av, v0, hbk0, hown0⟩ := h.row
  have HL := Lib.hid h.lt
  have HROW := Lib.hid hown0
  have HBK := Lib.hid hbk0
  have HAT := Lib.hid h.at_
  clear h hown0 hbk0
  go_enter Tryd.func35, Tryd.ntmps35
  go_wp2_with (go_at_call 47; refine (copyCheck2 b bs _ HAT.out).mono ?_)
  rintro e w1 ⟨rfl, h1, hw1⟩
  obtain ⟨hB, v, hbk, hown, hne⟩ := h1
  have hv : v = v0 := by
    rcases hw1 with rfl | rfl
    · have := hbk.symm.trans HBK.out; simp at this; exact this.2
    · have h2 := set_block (o := 0) HBK.out (.pointer (some ⟨b, 0, none⟩))
      have := hbk.symm.trans h2
      simp at this; exact this
  subst hv
  have hst : Stay b B w w1 := by
    rcases hw1 with rfl | rfl
    · exact Stay.refl _ _ _
    · refine ⟨rfl, rfl, rfl, by simp, fun j hj hn => set_other hn, fun j o ho hc => (set_other (fun q => ?_)).trans ho⟩
      rw [q, HBK.out] at ho
      cases ho
      cases hc
  have hown : w1.ownsRow B 5 1 v bs.length bs := row_kept HROW.out (fun j hj => by
    have := (HROW.out.lt j hj)
    rcases hw1 with rfl | rfl
    · rfl
    · exact set_other (by have := HL.out; omega))
  have HST := Lib.hid hst
  have HOWN := Lib.hid hown
  clear hw1 hst
  have c0 : w1.cell? ⟨b, 0, none⟩ = some (.pointer (some ⟨b, 0, none⟩)) := by rw [Lib.cell_of_heap hbk]; rfl
  have c1 : w1.cell? ⟨b, 1, none⟩ = some v := by rw [Lib.cell_of_heap hbk]; rfl
  go_wp2_with (at_builtin; refine Lib.wpList_append_own_string _ rfl _ _ 75 9 rfl B 5 i0 Tryd.underlying75 Tryd.underlying9 hi hz0 hz1 hz2 _ _ _ rfl HOWN.out s rfl ?c3 ?c4 ?c5 ?_)
  case c3 => unfold maxLen; omega
  case c4 => omega
  case c5 => have := HST.out.size; have := HL.out; omega
  intro v' w2 hown' hgrow _
  have hlt : b < w1.heap.size := by
    rcases Nat.lt_or_ge b w1.heap.size with h' | h'
    · exact h'
    · simp [Array.getElem?_eq_none h'] at hbk
  have hb2 : w2.heap[b]? = some (.cells #[.pointer (some ⟨b, 0, none⟩), v] 77 (0, 0)) := by
    rw [hgrow.block b hlt (fun e => hne e.symm)]
    exact hbk
  have d0 : w2.cell? ⟨b, 0, none⟩ = some (.pointer (some ⟨b, 0, none⟩)) := by rw [Lib.cell_of_heap hb2]; rfl
  have d1 : w2.cell? ⟨b, 1, none⟩ = some v := by rw [Lib.cell_of_heap hb2]; rfl
  have f1 : w2.frozen? ⟨b, 1, none⟩ = false := Lib.frozen_of_heap hb2 1
  obtain ⟨ao, n', cap, rfl⟩ : ∃ ao n' cap, v' = .slice ao n' cap := by
    rcases hown'.2 with ⟨hv, _⟩ | ⟨g, cap, cur, hv, _⟩
    · exact ⟨_, _, _, hv⟩
    · exact ⟨_, _, _, hv⟩
  have HO' := Lib.hid hown'
  go_wp2
  go_ret2
  have hob : w2.ownsRow b 5 1 (.slice ao n' cap) (bs.length + s.size) (bs ++ Lib.strCells s) := by
    refine ⟨HO'.out.1, HO'.out.2.imp id ?_⟩
    rintro ⟨g, cp, cur, h1, h2, h3⟩
    exact ⟨g, cp, cur, h1, by have := HL.out; omega, h3⟩
  have hnb : ∀ j, (Value.slice ao n' cap).ownBlock = some j → j ≠ b := fun j hj => by have := (HO'.out.lt j hj).1; have := HL.out; omega
  refine ⟨rfl, ⟨Or.inr (Lib.BuilderAt.put (T := 77) (e := 5) hB hb2 (bs' := bs ++ Lib.strCells s) (by simpa [Lib.strCells_length] using hob) (by decide)), ⟨_, _, set_block hb2 _, ?_⟩, HL.out.1, ?_⟩, ?_⟩
  · have := row_kept (w' := w2.setCell ⟨b, 1, none⟩ (.slice ao n' cap)) HO'.out (fun j hj => set_other (hnb j hj))
    simpa [Lib.strCells_length] using this
  · have := HST.out.size; have := hgrow.size; have := HL.out; simp; omega
  · refine HST.out.trans ⟨hgrow.os, hgrow.tape, hgrow.output, by simpa using hgrow.size, fun j hj hn => (set_other hn).trans (hgrow.block j (by have := HST.out.size; have := HL.out; omega) (fun q => by have := (HOWN.out.lt j q.symm).1; omega)), fun j o ho hc => ?_⟩
    have hjb : j ≠ b := fun q => by
      rw [q, hbk] at ho
      cases ho
      cases hc
    have hjr : some j ≠ v.ownBlock := fun q => by
      obtain ⟨cur, hcur⟩ := row_cells HOWN.out q.symm
      rw [hcur] at ho
      cases ho
      cases hc
    exact (set_other hjb).trans ((hgrow.block j (Array.getElem?_eq_some_iff.1 ho).1 hjr).trans ho)
end Go.Proofs.YtlhfdpeidlbomaaDoor
