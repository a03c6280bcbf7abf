/- Own texts, merged: G1, G2. -/
import Derived.BigQuiet
import Derived.Test.YtdehjofmangmbaaGreatMS45
import Derived.Test.YtdehjofmangmbaaGreatMS46
/- Walks: All and its iterator. -/
namespace Go.Proofs.YtdehjofmangmbaaGreat
open Go.RowKit Go.Shelf
attribute [local go_sem] Oper.semAt_some
theorem wclone {W : World} {x : Option Addr} {c : Nat} {L : List Bs} (h : TxV W (.slice x L.length c) L) (hL : L.length ≤ 1000) : Calls Tryz.prog 72 #[.slice x L.length c] W fun e w' => ∃ y cap, e = .returned (.slice y L.length cap) ∧ w'.ownsRow W.heap.size 9 1 (.slice y L.length cap) L.length (strs L) ∧ Below W.heap.size W w' := by
  by_cases h0 : L = []
  · subst h0
    cases x with
    | none =>
      refine (Tryz.slices_Clone_string_nil 0 c W).mono ?_
      rintro e w' ⟨rfl, rfl⟩
      exact ⟨none, 0, rfl, World.ownsRow_nil _ _ _ _, Below.refl _ _⟩
    | some a =>
      refine (Tryz.slices_Clone_string_zero a c W).mono ?_
      rintro e w' ⟨v, rfl, hv, _, hb⟩
      obtain ⟨y, cap, rfl⟩ := ownsRow_is hv
      exact ⟨y, cap, rfl, hv, hb⟩
  · obtain ⟨x', c', he, hc, _, hg⟩ := h.old
    obtain ⟨rfl, rfl⟩ : x = x' ∧ c = c' := by simpa using he
    obtain ⟨g, o, rfl, hgl, hget⟩ := hg h0
    refine (Tryz.slices_Clone_string g o L.length c (L.map tx) W (by simp) (by omega) (fun j hj => ?_)).mono ?_
    · have hj' : j < L.length := by simpa using hj
      rw [hget j hj', List.getD_eq_getElem?_getD, List.getD_eq_getElem?_getD, List.getElem?_map, List.getElem?_eq_getElem hj']
      rfl
    · rintro e w' ⟨v, rfl, hv, _, hb⟩
      obtain ⟨y, cap, rfl⟩ := ownsRow_is hv
      refine ⟨y, cap, rfl, ?_, hb⟩
      have e1 : ((L.map tx).take L.length).map Value.string = strs L := by simp [strs, List.take_of_length_le]
      rw [e1] at hv
      exact hv
/-- What All hands back. -/
structure AllO (W : World) (bq bl : Nat) (q : Bs) (y : Option Addr) (cap : Nat) (L : List Bs) (B : Nat) : Prop where
  fq : Box W bq 9 (.string (tx q))
  fl : Box W bl 26 (.slice y L.length cap)
  row : W.ownsRow B 9 1 (.slice y L.length cap) L.length (strs L)
  q1 : B ≤ bq
  q2 : B ≤ bl
theorem AllO.below {W W' : World} {bq bl : Nat} {q : Bs} {y : Option Addr} {cap : Nat} {L : List Bs} {B : Nat} (h : AllO W bq bl q y cap L B) (hB : Below W.heap.size W W') : AllO W' bq bl q y cap L B :=
  ⟨h.fq.kept h.fq.lt hB, h.fl.kept h.fl.lt hB, row_kept h.row (fun j hj => hB.block j (h.row.lt j hj).2), h.q1, h.q2⟩
set_option maxHeartbeats 1000000 in
theorem wAll (q : Bs) (x : Option Addr) (c : Nat) (L : List Bs) (hL : L.length ≤ 1000) (w : World) (h : TxV w (.slice x L.length c) L) : Calls Tryz.prog 48 #[.string (tx q), .slice x L.length c] w fun e w' => ∃ bq bl y cap, e = .returned (.func (.func 73) #[] #[.pointer (some ⟨bq, 0, none⟩), .pointer (some ⟨bl, 0, none⟩)]) ∧ AllO w' bq bl q y cap L w.heap.size ∧ Below w.heap.size w w' := by
  have hB0 : Below w.heap.size w (w.alloc (.cells #[.string (tx q)] 9)) := (Below.refl _ _).alloc (Nat.le_refl _) _
  have HB0 := Lib.hid hB0
  have HQ0 : Hid (Box (w.alloc (.cells #[.string (tx q)] 9)) w.heap.size 9 (.string (tx q))) := Lib.hid (heap_alloc_new _ _)
  have HCL := Lib.hid (wclone (h.below hB0) hL)
  generalize hTQ : tx q = TQ at HB0 HQ0 HCL ⊢
  have HTQ := Lib.hid hTQ
  clear hB0 h hTQ
  go_enter Tryz.func48, Tryz.ntmps48
  go_wp2_with (first | (go_at_call 72; fail))
  generalize (w.alloc (.cells #[.string TQ] 9)) = W0 at HB0 HQ0 HCL ⊢
  refine HCL.out.mono ?_
  rintro e w1 ⟨y, cap, rfl, hrow, hb⟩
  have HF : Hid (AllO (w1.alloc (.cells #[.slice y L.length cap] 26)) w.heap.size w1.heap.size q y cap L w.heap.size ∧ Below w.heap.size w (w1.alloc (.cells #[.slice y L.length cap] 26))) := Lib.hid (by
    have hb2 := HB0.out.trans (below_le hb HB0.out.size)
    have hal : Below w1.heap.size w1 (w1.alloc (.cells #[.slice y L.length cap] 26)) := (Below.refl _ _).alloc (Nat.le_refl _) _
    refine ⟨⟨?_, heap_alloc_new _ _, ?_, Nat.le_refl _, hb2.size⟩, hb2.alloc hb2.size _⟩
    · have h1 := HQ0.out.kept HQ0.out.lt hb
      rw [HTQ.out]
      exact h1.kept h1.lt hal
    · exact World.ownsRow.mono (row_kept hrow (fun j hj => hal.block j (hrow.lt j hj).2)) HB0.out.size)
  clear hrow hb HCL
  go_wp2
  go_ret
  exact ⟨_, _, y, cap, rfl, HF.out.1, HF.out.2⟩
def ownAt (A : World) (bx : Nat) : Option Nat := (A.cell? ⟨bx, 0, none⟩).bind Value.ownBlock
/-- What a round keeps: every row of numbers that lies ahead of the one that the box's slice owns, and all that is of another kind. -/
structure KeepR (bx : Nat) (A B : World) : Prop where
  size : A.heap.size ≤ B.heap.size
  own : ∀ j, ownAt B bx = some j → (∃ g, ownAt A bx = some g ∧ g ≤ j) ∨ A.heap.size ≤ j
  row : ∀ j cur r, A.heap[j]? = some (.cells cur 3 r) → j ≠ bx → (∀ g, ownAt A bx = some g → j < g) → B.heap[j]? = A.heap[j]?
  oth : ∀ (j : Nat) (cur : Array Value) (t : TypeId) (r : Nat × Nat), A.heap[j]? = some (.cells cur t r) → t ≠ 3 → t ≠ 30 → t ≠ 4 → B.heap[j]? = A.heap[j]?
theorem KeepR.refl (bx : Nat) (A : World) : KeepR bx A A := ⟨Nat.le_refl _, fun j h => .inl ⟨j, h, Nat.le_refl _⟩, fun _ _ _ _ _ _ => rfl, fun _ _ _ _ _ _ _ _ => rfl⟩
theorem KeepR.trans {bx : Nat} {A B C : World} (h : KeepR bx A B) (k : KeepR bx B C) : KeepR bx A C := by
  refine ⟨Nat.le_trans h.size k.size, fun j hj => ?_, fun j cur r hr hne hn => ?_, fun j cur t r hr t1 t2 t3 => ?_⟩
  · rcases k.own j hj with ⟨g, q, hg⟩ | q
    · rcases h.own g q with ⟨g0, z, hz⟩ | z
      · exact .inl ⟨g0, z, Nat.le_trans hz hg⟩
      · exact .inr (Nat.le_trans z hg)
    · exact .inr (Nat.le_trans h.size q)
  · have h1 := h.row j cur r hr hne hn
    have hlt := (Array.getElem?_eq_some_iff.1 hr).1
    refine (k.row j cur r (h1.trans hr) hne (fun g q => ?_)).trans h1
    rcases h.own g q with ⟨g0, z, hz⟩ | z
    · have := hn g0 z; omega
    · omega
  · have h1 := h.oth j cur t r hr t1 t2 t3
    exact (k.oth j cur t r (h1.trans hr) t1 t2 t3).trans h1
theorem keepR_b {bx : Nat} {w : World} (hb : bx < w.heap.size) : ∀ (W : World) (l : Nat) (o o' : Obj), w.heap.size ≤ l → W.heap[l]? = some o → o.isCells = false → o.isWalk = false → KeepR bx W (W.putObj l o') := fun W l o o' hl ho h1 _ => by
  have e : ownAt (W.putObj l o') bx = ownAt W bx := by unfold ownAt; rw [World.cell?_of_block (World.putObj_heap_other (show bx ≠ l by omega))]
  refine ⟨by simp, fun j hj => .inl ⟨j, by rwa [e] at hj, Nat.le_refl _⟩, fun j cur r hr _ _ => World.putObj_heap_other (fun q => ?_), fun j cur t r hr _ _ _ => World.putObj_heap_other (fun q => ?_)⟩ <;>
  · subst q
    rw [hr] at ho
    cases ho
    cases h1
/-- What a place is told as. -/
def fncT (R : List Nat) (L : List Bs) (i : Nat) : ByteArray := tx (L.getD (R.getD i 0) [])
def rth (R : List Nat) (i : Nat) : Nat := R.getD i 0
def lenc (R : List Nat) (L : List Bs) (i : Nat) : Array Value := #[.int .i64 (rth R i : Nat), .string (fncT R L i)]
set_option maxRecDepth 100000 in
set_option maxHeartbeats 2000000 in
theorem all_in (l bq bl bx B0 : Nat) (q : Bs) (hq : q.length ≤ 10000) (L : List Bs) (hL : L.length ≤ 1000) (hLs : ∀ s ∈ L, s.length ≤ 10000) (y : Option Addr) (cap : Nat) (W : World) (h : AllO W bq bl q y cap L B0)
    (hR : ∀ r ∈ sieT q L, r < L.length) (hRl : (sieT q L).length ≤ 1000) (hbx : ownAt W bx = none) (hbxl : bx < W.heap.size)
    (J Jx : List Nat → World → Prop) (hA : AbidesFrom W.heap.size J)
    (hY : ∀ k W1, J (List.range k) W1 → k < (sieT q L).length → YieldAt Fence.wide 4 Tryz.prog l (lenc (sieT q L) L k) W1 fun e W' =>
      (e = .returned (.bool true) ∧ J (List.range (k + 1)) W' ∧ KeepR bx W1 W') ∨ (e = .returned (.bool false) ∧ Jx (List.range (k + 1)) W'))
    (hJ0 : J [] W) :
    CallsIn Fence.wide 5 Tryz.prog 73 #[.func (.yield l) #[] #[], .pointer (some ⟨bq, 0, none⟩), .pointer (some ⟨bl, 0, none⟩)] W fun e W' => (∃ v, e = .returned v) ∧
      ((∃ xs, xs = List.range (sieT q L).length ∧ J xs W') ∨ (∃ pre, (∃ k, k ≤ (sieT q L).length ∧ 0 < k ∧ pre = List.range k) ∧ Jx pre W')) := by
  have c1 := h.fq.cell
  have c2 := h.fl.cell
  have HS := Lib.hid (wsieve q (.slice y L.length cap) L hq hLs W (TxV.of_row h.row (by omega)))
  unfold SvEnd at HS
  have HH := Lib.hid h
  have HY := Lib.hid hY
  have HA := Lib.hid hA
  have HBX := Lib.hid (And.intro hbx hbxl)
  generalize sieT q L = R at HS HY hR hRl ⊢
  have HRB := Lib.hid hR
  obtain ⟨n, hn⟩ : ∃ n, n = R.length := ⟨_, rfl⟩
  have HN := Lib.hid hn
  rw [← hn] at hRl HY ⊢
  generalize tx q = TQ at c1 HS
  clear hY hA hbx hbxl h hn hR hq hLs
  refine callsIn_of_wp Tryz.func73 rfl trivial ?_ rfl
  simp only [Tryz.ntmps73, List.size_toArray, List.length_cons, List.length_nil, Nat.reduceAdd, Nat.reduceSub, Array.replicate_succ, Array.replicate_zero, List.push_toArray, List.append_toArray, List.nil_append, List.cons_append]
  gi_wp2_with (first | (gi_at_call 23; fail))
  refine ⟨trivial, ?_⟩
  refine (callsIn_wide.2 HS.out).mono ?_
  rintro e w1 ⟨v1, rfl, hrow, hb⟩
  obtain ⟨z, zc, rfl⟩ := hrow.is
  have HR := Lib.hid hrow
  have HAL := Lib.hid (HH.out.below hb)
  have hJ1 := HA.out _ W w1 none hJ0 ⟨hb.os, hb.tape, hb.output, hb.size, fun i hi _ => hb.block i hi⟩ (fun r e => by cases e)
  have HO : Hid (ownAt w1 bx = none ∧ W.heap.size ≤ w1.heap.size) := Lib.hid ⟨by
    unfold ownAt
    rw [World.cell?_of_block (a := ⟨bx, 0, none⟩) (hb.block bx HBX.out.2)]
    exact HBX.out.1, hb.size⟩
  rw [← HN.out]
  clear hrow hb c1 c2
  gi_wp2
  gi_loopw [10] (fun i wy => ∃ j : Nat, j ≤ n ∧ i = .int .i64 j ∧ J (List.range j) wy ∧ Hid (KeepR bx w1 wy)) (fun i _ => n - (intOf i).toNat)
  case atStart => exact ⟨0, Nat.zero_le _, rfl, hJ1, Lib.hid (KeepR.refl _ _)⟩
  case round =>
    obtain ⟨j, hj, rfl, hJ2, HK⟩ := hrel
    by_cases hlt : j < n
    · have hjR : j < R.length := by have := HN.out; omega
      obtain ⟨-, g, rfl, hgl, hgc, hget⟩ := HR.out.get j hjR
      have hR2 : w1.ownsRow W.heap.size 3 1 (.slice (some ⟨g, 0, none⟩) R.length zc) R.length (ints R) := HR.out
      have ck : wr.cell? ⟨g, j, none⟩ = some (.int .i64 (R.getD j 0 : Nat)) := by
        rcases hR2.2 with ⟨hv, h0⟩ | ⟨g', cap', cur, hv, hgb, hg, _⟩
        · simp at hv
        · obtain ⟨rfl, rfl⟩ : g = g' ∧ zc = cap' := by simpa using hv
          have k1 := HK.out.row g cur _ hg (by have := HBX.out.2; omega) (fun g0 hg0 => by rw [HO.out.1] at hg0; cases hg0)
          rw [World.cell?_of_block (a := ⟨g, j, none⟩) k1]
          exact hget j hjR
      have hrl := HRB.out (R.getD j 0) (by rw [List.getD_eq_getElem?_getD, List.getElem?_eq_getElem hjR]; exact List.getElem_mem _)
      have cl : wr.cell? ⟨bl, 0, none⟩ = some (.slice y L.length cap) := by
        rw [World.cell?_of_block (a := ⟨bl, 0, none⟩) (HK.out.oth bl _ _ _ HAL.out.fl (by decide) (by decide) (by decide))]
        exact HAL.out.fl.cell
      have hcell : ∃ gl, y = some ⟨gl, 0, none⟩ ∧ L.length ≤ cap ∧ wr.cell? ⟨gl, R.getD j 0, none⟩ = some (.string (tx (L.getD (R.getD j 0) []))) := by
        have hrw := HAL.out.row
        rcases hrw.2 with ⟨hv, h0⟩ | ⟨gl, cap', cur, hv, _, hg, hnc, _⟩
        · omega
        · obtain ⟨rfl, rfl⟩ : y = some ⟨gl, 0, none⟩ ∧ cap = cap' := by simpa using hv
          refine ⟨gl, rfl, hnc, ?_⟩
          rw [World.cell?_of_block (a := ⟨gl, R.getD j 0, none⟩) (HK.out.oth gl cur 9 _ hg (by decide) (by decide) (by decide))]
          have h1 := hrw.cellAt (R.getD j 0) (by omega)
          rw [h1, strs, List.getElem?_map, List.getElem?_eq_getElem hrl, List.getD_eq_getElem?_getD (l := L), List.getElem?_eq_getElem hrl]
          rfl
      obtain ⟨gl, rfl, hcp, cs⟩ := hcell
      obtain ⟨fn, tmps, assign, body, hy, hRo⟩ := HY.out j wr hJ2 hlt
      unfold lenc fncT rth at hy
      have HRR := Lib.hid hRo
      generalize R.getD j 0 = r at ck cs hy hrl
      generalize tx (L.getD r []) = X at cs hy
      have hzc : n ≤ zc := by have := HN.out; omega
      clear hR2 hRo hJ2 hget hgl hgc hjR
      have i1 : (0 : Int) ≤ (j : Int) := by omega
      have i2 : (j : Int) < (n : Int) := by omega
      have i3 : (r : Int) < (L.length : Int) := by omega
      gi_wp2
      refine HRR.out.mono ?_
      rintro e W3 (⟨rfl, hJ3, hk3⟩ | ⟨rfl, hJx3⟩)
      · gi_wp2
        go_roundw
        case rel => exact ⟨j + 1, by omega, by go_num, hJ3, Lib.hid (HK.out.trans hk3)⟩
        case measure => simp [intOf]; omega
      · gi_wp2
        refine bodyPost_ret (results_none rfl _ _ _) rfl ?_
        exact ⟨⟨_, rfl⟩, .inr ⟨_, ⟨j + 1, by omega, by omega, rfl⟩, hJx3⟩⟩
    · obtain rfl : j = n := by omega
      gi_wp2
      go_end0
      exact ⟨⟨_, rfl⟩, .inl ⟨_, rfl, hJ2⟩⟩
def fenc (R : List Nat) (L : List Bs) (x : Fin R.length) : Array Value := lenc R L x.1
theorem all_stops {bq bl bx B0 : Nat} {q : Bs} {L : List Bs} {y : Option Addr} {cap : Nat} {w1 : World} (hq : q.length ≤ 10000) (hL : L.length ≤ 1000) (hLs : ∀ s ∈ L, s.length ≤ 10000) (h : AllO w1 bq bl q y cap L B0) (hR : ∀ r ∈ sieT q L, r < L.length) (hRl : (sieT q L).length ≤ 1000)
    (hbxl : bx < w1.heap.size) (hbx : ownAt w1 bx = none) :
    SeqStopsK Fence.wide 5 Tryz.prog 73 #[.pointer (some ⟨bq, 0, none⟩), .pointer (some ⟨bl, 0, none⟩)] (fenc (sieT q L) L) (KeepR bx) (fun xs => xs.map (·.1) = List.range (sieT q L).length) (fun pre => ∃ k, k ≤ (sieT q L).length ∧ 0 < k ∧ pre.map (·.1) = List.range k) (sieT q L).length w1 := fun l J Jx W hW hA _ hY h0 => by
  refine (all_in l bq bl bx B0 q hq L hL hLs y cap W (h.below hW) hR hRl (by unfold ownAt; rw [World.cell?_of_block (a := ⟨bx, 0, none⟩) (hW.block bx hbxl)]; exact hbx) (by have := hW.size; omega)
    (fun q' W => ∃ fs : List (Fin (sieT q L).length), q' = fs.map (·.1) ∧ J fs W) (fun q' W => ∃ fs : List (Fin (sieT q L).length), q' = fs.map (·.1) ∧ Jx fs W) (fun s A B row ⟨fs, h1, h2⟩ hg hr => ⟨fs, h1, hA fs A B row h2 hg hr⟩) ?_ ⟨[], rfl, h0⟩).mono ?_
  · rintro k W1 ⟨fs, hfs, hJ⟩ hlt
    have hl : fs.length = k := by have := congrArg List.length hfs; simpa using this.symm
    refine (hY fs ⟨k, hlt⟩ W1 hJ (by omega)).mono ?_
    have e : List.range (k + 1) = (fs ++ [(⟨k, hlt⟩ : Fin (sieT q L).length)]).map (·.1) := by rw [List.range_succ, hfs]; simp
    rintro e' W' (⟨he, h1, h2⟩ | ⟨he, h1⟩)
    · exact .inl ⟨he, ⟨_, e, h1⟩, h2⟩
    · exact .inr ⟨he, _, e, h1⟩
  · rintro e W' ⟨he, ⟨xs, hx, fs, hf, hJ⟩ | ⟨pre, ⟨k, h1, h2, h3⟩, fs, hf, hJ⟩⟩
    · exact ⟨he, .inl ⟨fs, hf.symm.trans hx, hJ⟩⟩
    · exact ⟨he, .inr ⟨fs, ⟨k, h1, h2, hf.symm.trans h3⟩, hJ⟩⟩
end Go.Proofs.YtdehjofmangmbaaGreat
/- Walks: told of All. -/
namespace Go.Proofs.YtdehjofmangmbaaGreat
open Go.RowKit Go.Shelf
attribute [local go_sem] Oper.semAt_some
theorem keepsFrom_set {B : Nat} (W : World) (a : Addr) (v : Value) (h : a.block < B) : KeepsFrom B W (W.setCell a v) := ⟨by simp, fun k o hk ho _ => by rw [Below.heap_setCell _ _ _ _ (by omega)]; exact ho⟩
/-- The lowest block that an append to v may give. -/
def baseOf (W : World) (v : Value) : Nat := v.ownBlock.getD W.heap.size
theorem rebase {w : World} {n0 : Nat} {e : TypeId} {z n : Nat} {v : Value} {xs : List Value} (h : w.ownsRow n0 e z v n xs) : w.ownsRow (baseOf w v) e z v n xs := by
  refine ⟨h.1, h.2.imp id ?_⟩
  rintro ⟨g, cap, cur, rfl, h2, h3⟩
  exact ⟨g, cap, cur, rfl, Nat.le_refl _, h3⟩
theorem baseOf_le {w : World} {n0 : Nat} {e : TypeId} {z n : Nat} {v : Value} {xs : List Value} (h : w.ownsRow n0 e z v n xs) (h0 : n0 ≤ w.heap.size) : baseOf w v ≤ w.heap.size ∧ n0 ≤ baseOf w v := by
  unfold baseOf
  cases hv : v.ownBlock with
  | none => exact ⟨Nat.le_refl _, h0⟩
  | some g =>
    have := h.lt g hv
    exact ⟨by simp only [Option.getD_some]; omega, this.1⟩
theorem row_cells {w : World} {n0 : Nat} {e : TypeId} {z n : Nat} {v : Value} {xs : List Value} (h : w.ownsRow n0 e z v n xs) : ∀ j, v.ownBlock = some j → ∃ cur, w.heap[j]? = some (.cells cur e (0, 0)) := fun j hj => by
  rcases h.2 with ⟨hv, _⟩ | ⟨g, cap, cur, hv, _, hg, _⟩
  · rw [hv] at hj; cases hj
  · rw [hv] at hj; cases hj; exact ⟨cur, hg⟩
/-- A box's slice appended to. -/
theorem app_keep {W w1 : World} {B bx : Nat} {v v' : Value} {tmp : Obj} {n0 n k' : Nat} {xs ys : List Value} (hb : Box W bx 30 v) (hr : W.ownsRow n0 3 1 v n xs) (h0 : n0 ≤ W.heap.size) (hbx : bx < n0)
    (hown : w1.ownsRow (baseOf W v) 3 1 v' k' ys) (hg : (W.alloc tmp).grownBy w1 v.ownBlock) :
    Box (w1.setCell ⟨bx, 0, none⟩ v') bx 30 v' ∧ Box w1 bx 30 v ∧ (w1.setCell ⟨bx, 0, none⟩ v').ownsRow n0 3 1 v' k' ys ∧ KeepR bx W (w1.setCell ⟨bx, 0, none⟩ v') ∧ KeepsFrom B W (w1.setCell ⟨bx, 0, none⟩ v') ∧
      (∀ j, j < n0 → j ≠ bx → (w1.setCell ⟨bx, 0, none⟩ v').heap[j]? = W.heap[j]?) ∧ W.heap.size ≤ (w1.setCell ⟨bx, 0, none⟩ v').heap.size ∧ (w1.setCell ⟨bx, 0, none⟩ v').os = W.os ∧ (w1.setCell ⟨bx, 0, none⟩ v').tape = W.tape ∧ (w1.setCell ⟨bx, 0, none⟩ v').output = W.output := by
  obtain ⟨q1, q2⟩ := baseOf_le hr h0
  have hne : ∀ j, j < n0 → some j ≠ v.ownBlock := fun j hj e => by have := (hr.lt j e.symm).1; omega
  have hk : ∀ j, j < W.heap.size → some j ≠ v.ownBlock → w1.heap[j]? = W.heap[j]? := fun j hj hn => by
    rw [hg.block j (by simp; omega) hn, Below.heap_alloc _ _ _ hj]
  have hb1 : Box w1 bx 30 v := (hk bx hb.lt (hne bx hbx)).trans hb
  have hsz : W.heap.size ≤ w1.heap.size := by have := hg.size; simp at this; omega
  have hnt : ∀ j cur t r, W.heap[j]? = some (.cells cur t r) → t ≠ 3 → some j ≠ v.ownBlock := fun j cur t r hj ht e => by
    obtain ⟨cur2, h2⟩ := row_cells hr j e.symm
    rw [h2] at hj
    cases hj
    exact ht rfl
  refine ⟨hb1.set v', hb1, ?_, ?_, ?_, ?_, by simpa using hsz, hg.os, hg.tape, hg.output⟩
  · refine row_kept (World.ownsRow.mono hown q2) (fun j hj => set_other (fun e => ?_))
    have := (hown.lt j hj).1
    omega
  · have o1 : ownAt W bx = v.ownBlock := by unfold ownAt; rw [hb.cell]; rfl
    have o2 : ownAt (w1.setCell ⟨bx, 0, none⟩ v') bx = v'.ownBlock := by unfold ownAt; rw [(hb1.set v').cell]; rfl
    refine ⟨by simpa using hsz, fun j hj => ?_, fun j cur r hr2 hne2 hn => ?_, fun j cur t r hr2 t1 t2 t3 => ?_⟩
    · rw [o2] at hj
      have := (hown.lt j hj).1
      rw [o1]
      unfold baseOf at this
      cases hv : v.ownBlock with
      | none => rw [hv] at this; exact .inr this
      | some g => rw [hv] at this; exact .inl ⟨g, rfl, this⟩
    · have hlt := (Array.getElem?_eq_some_iff.1 hr2).1
      rw [set_other hne2]
      exact hk j hlt (fun e => by have := hn j (o1.trans e.symm); omega)
    · have hlt := (Array.getElem?_eq_some_iff.1 hr2).1
      have hjb : j ≠ bx := fun e => by rw [e, show W.heap[bx]? = _ from hb] at hr2; cases hr2; exact t2 rfl
      rw [set_other hjb]
      exact hk j hlt (hnt j cur t r hr2 t1)
  · refine ⟨by simpa using hsz, fun j o _ ho hc => ?_⟩
    have hlt := (Array.getElem?_eq_some_iff.1 ho).1
    have hjb : j ≠ bx := fun e => by rw [e, show W.heap[bx]? = _ from hb] at ho; cases ho; cases hc
    rw [set_other hjb, hk j hlt (fun e => ?_)]
    · exact ho
    · obtain ⟨cur, h2⟩ := row_cells hr j e.symm
      rw [h2] at ho
      cases ho
      cases hc
  · intro j hj hjb
    rw [set_other hjb]
    exact hk j (by omega) (hne j hj)
theorem cell_new1 (W : World) (a : Addr) (v x : Value) (t : TypeId) : ∀ (j : Nat) (u : Value), [x][j]? = some u → ((W.setCell a v).alloc (.cells #[x] t)).cell? ((⟨W.heap.size, 0, none⟩ : Addr).add j) = some u := fun j u hu => by
  have := cell_one_new (W.setCell a v) x t j u hu
  simpa only [World.size_setCell] using this
def rsOf (R : List Nat) (pre : List (Fin R.length)) : List Nat := pre.map (fun x => R.getD x.1 0)
theorem rsOf_len (R : List Nat) (pre : List (Fin R.length)) : (rsOf R pre).length = pre.length := by simp [rsOf]
theorem rsOf_range {R : List Nat} {pre : List (Fin R.length)} {k : Nat} (h : pre.map (·.1) = List.range k) (hk : k ≤ R.length) : rsOf R pre = R.take k := by
  have e : rsOf R pre = (pre.map (·.1)).map (fun i => R.getD i 0) := by simp [rsOf]
  rw [e, h]
  apply List.ext_getElem?
  intro i
  rw [List.getElem?_map, List.getElem?_take]
  by_cases hi : i < k
  · rw [List.getElem?_range hi, if_pos hi, List.getElem?_eq_getElem (show i < R.length by omega)]
    simp [List.getD_eq_getElem?_getD, List.getElem?_eq_getElem (show i < R.length by omega)]
  · rw [if_neg hi, List.getElem?_eq_none (by simp; omega)]
    rfl
/-- What told's loop keeps: the options' box, the box of how many, the row's box at bx, the truth's behind it. -/
structure TI (w : World) (bx : Nat) (vo : Value) (most : Nat) (R : List Nat) (pre : List (Fin R.length)) (W : World) : Prop where
  b4 : Box W w.heap.size 26 vo
  b5 : Box W (w.heap.size + 1) 3 (.int .i64 (most : Int))
  ex : ∃ v, Box W bx 30 v ∧ W.ownsRow (bx + 2) 3 1 v pre.length (ints (rsOf R pre))
  bk : Box W (bx + 1) 4 (.bool true)
  bel : Below w.heap.size w W
  sz : bx + 2 ≤ W.heap.size
  hx : w.heap.size + 2 ≤ bx
theorem ti_own (w : World) (bx : Nat) (vo : Value) (most : Nat) (R : List Nat) (B : Nat) (hB : w.heap.size ≤ B) : OwnFrom B (TI w bx vo most R) := fun _ _ _ _ h hg hr => by
  have hk := cells_grown hg (fun r e => (hr r e).2)
  obtain ⟨v, h1, h2⟩ := h.ex
  refine ⟨(hk.2 _ _ h.b4 rfl).trans h.b4, (hk.2 _ _ h.b5 rfl).trans h.b5, ⟨v, (hk.2 _ _ h1 rfl).trans h1, ?_⟩, (hk.2 _ _ h.bk rfl).trans h.bk, h.bel.grown hg h.bel.size (fun k e => by have := (hr k e).1; omega), Nat.le_trans h.sz hg.size, h.hx⟩
  exact row_kept h2 (fun j hj => by
    obtain ⟨cur, hc⟩ := row_cells h2 j hj
    exact hk.2 _ _ hc rfl)
theorem keepR_set2 {bx j0 : Nat} {W : World} {v : Value} {cur : Array Value} {r : Nat × Nat} (h : W.heap[j0]? = some (.cells cur 4 r)) (hne : bx ≠ j0) : KeepR bx W (W.setCell ⟨j0, 0, none⟩ v) := by
  have e : ownAt (W.setCell ⟨j0, 0, none⟩ v) bx = ownAt W bx := by unfold ownAt; rw [World.cell?_of_block (a := ⟨bx, 0, none⟩) (set_other hne)]
  refine ⟨by simp, fun j hj => .inl ⟨j, by rwa [e] at hj, Nat.le_refl _⟩, fun j cur2 r2 hr _ _ => set_other (fun q => ?_), fun j cur2 t r2 hr t1 t2 t3 => set_other (fun q => ?_)⟩
  · subst q
    rw [h] at hr
    cases hr
  · subst q
    rw [h] at hr
    cases hr
    exact t3 rfl
theorem ti_next {w : World} {bx : Nat} {vo : Value} {most : Nat} {R : List Nat} {pre : List (Fin R.length)} {y : Fin R.length} {W F : World} {v' : Value} {n B r : Nat} (hI : TI w bx vo most R pre W) (hn : n = pre.length) (hX : r = R.getD y.1 0) (hB : bx + 2 ≤ B)
    (q1 : Box F bx 30 v') (q3 : F.ownsRow (bx + 2) 3 1 v' (n + 1) (ints (rsOf R pre) ++ [.int .i64 (r : Int)])) (q4 : KeepR bx (W.setCell ⟨bx + 1, 0, none⟩ (.bool true)) F) (q5 : KeepsFrom B (W.setCell ⟨bx + 1, 0, none⟩ (.bool true)) F)
    (q6 : ∀ j, j < bx + 2 → j ≠ bx → F.heap[j]? = (W.setCell ⟨bx + 1, 0, none⟩ (.bool true)).heap[j]?) (q7 : (W.setCell ⟨bx + 1, 0, none⟩ (.bool true)).heap.size ≤ F.heap.size) (q8 : F.os = W.os) (q9 : F.tape = W.tape) (q10 : F.output = W.output) :
    KeepsFrom B W F ∧ KeepR bx W F ∧ TI w bx vo most R (pre ++ [y]) F := by
  have hhx := hI.hx
  refine ⟨(keepsFrom_set _ _ _ (show bx + 1 < B by omega)).trans q5, (keepR_set2 hI.bk (by omega)).trans q4, ?_⟩
  subst hn hX
  refine ⟨(q6 _ (by omega) (by omega)).trans ((set_other (by omega)).trans hI.b4), (q6 _ (by omega) (by omega)).trans ((set_other (by omega)).trans hI.b5), ⟨v', q1, ?_⟩, (q6 _ (by omega) (by omega)).trans (hI.bk.set _), ?_, ?_, hhx⟩
  · rw [List.length_append, List.length_singleton]
    have e : ints (rsOf R (pre ++ [y])) = ints (rsOf R pre) ++ [.int .i64 (R.getD y.1 0 : Nat)] := by simp [rsOf, ints]
    rw [e]
    exact q3
  · have h1 := hI.bel
    have h2 := hI.sz
    refine ⟨q8.trans h1.os, q9.trans h1.tape, q10.trans h1.output, ?_, fun j hj => (q6 j (by omega) (by omega)).trans ((set_other (by omega)).trans (h1.block j hj))⟩
    have := h1.size
    simp at q7
    omega
  · have h2 := hI.sz
    simp at q7
    omega
/-- told's ending. -/
def ToldE (R : List Nat) (most : Nat) (w : World) (e : Ending) (w' : World) : Prop := ∃ x cap, e = .returned (.tuple #[.slice x (R.take most).length cap, .bool true]) ∧ IntO w.heap.size w' (.slice x (R.take most).length cap) (R.take most) ∧ Below w.heap.size w w'
theorem row_put {w : World} {base : Nat} {n : Nat} {v : Value} {xs : List Value} {D : Nat} {o o' : Obj} (h : w.ownsRow base 3 1 v n xs) (hD : w.heap[D]? = some o) (hc : o.isCells = false) : (w.putObj D o').ownsRow base 3 1 v n xs :=
  row_kept h (fun j hj => World.putObj_heap_other (fun e => by
    obtain ⟨cur, h2⟩ := row_cells h j hj
    rw [e, hD] at h2
    cases h2
    cases hc))
theorem told_fin {w W : World} {bx most D k : Nat} {vo : Value} {R : List Nat} {pre : List (Fin R.length)} (hI : TI w bx vo most R pre W) (hS : pre.map (·.1) = List.range k) (hk : k ≤ R.length) (ht : R.take most = R.take k) (hK : W.heap[D]? = some (.deferred (some []))) (hD : w.heap.size ≤ D) (x : Option Addr) (cap : Nat) (hr : W.ownsRow (bx + 2) 3 1 (.slice x pre.length cap) pre.length (ints (rsOf R pre))) :
    IntO w.heap.size (W.drew.putObj D (.deferred none)) (.slice x (R.take most).length cap) (R.take most) ∧ Below w.heap.size w (W.drew.putObj D (.deferred none)) := by
  have hl : pre.length = k := by have := congrArg List.length hS; simpa using this
  have hr2 : W.drew.ownsRow (bx + 2) 3 1 (.slice x pre.length cap) pre.length (ints (rsOf R pre)) := hr
  have hhx := hI.hx
  refine ⟨?_, hI.bel.drew.trans (belowK_b (w := w) (Nat.le_refl _) W.drew D _ _ hD hK rfl rfl)⟩
  have h1 := World.ownsRow.mono (row_put (o' := .deferred none) hr2 hK rfl) (show w.heap.size ≤ bx + 2 by omega)
  rw [rsOf_range hS hk, hl] at h1
  unfold IntO
  rw [ht, List.length_take, Nat.min_eq_left hk]
  exact h1
theorem run_equalIn_func_nil (w : World) (d : Nat) (f : Fn) (a b : Array Value) : (Op.equalIn (d + 1) 72 (.func f a b) .nilFunc).run Tryz.prog w = .ok false w := by
  simp [Op.equalIn, run_underlying Tryz.underlying72]
theorem run_eql_func_nil (w : World) (f : Fn) (a b : Array Value) : (binOp .eql 72 (.func f a b) .nilFunc).run Tryz.prog w = .ok (.bool false) w := by
  simp only [binOp]
  simp [Op.equal, Op.maxDepth, run_equalIn_func_nil w 9999 f a b]
set_option maxRecDepth 100000 in
set_option maxHeartbeats 4000000 in
theorem wtold (q : Bs) (hq : q.length ≤ 10000) (L : List Bs) (hL : L.length ≤ 1000) (hLs : ∀ s ∈ L, s.length ≤ 10000) (hR : ∀ r ∈ sieT q L, r < L.length) (hRl : (sieT q L).length ≤ 1000) (xo : Option Addr) (co : Nat) (most : Nat) (hmm : most ≤ 1000) (w : World) (h : TxV w (.slice xo L.length co) L) : Calls Tryz.prog 24 #[.string (tx q), .slice xo L.length co, .int .i64 (most : Int)] w (ToldE (sieT q L) most w) := by
  have hfn := run_eql_func_nil
  obtain ⟨i3, hi, hz0, hz1, hz2⟩ := info_parts3
  have HI9 := Lib.hid (And.intro hi (And.intro hz0 (And.intro hz1 hz2)))
  have HM := Lib.hid (And.intro hq (And.intro hL (And.intro hLs (And.intro hR (And.intro hRl hmm)))))
  have hB0 : Below w.heap.size w ((w.alloc (.cells #[.slice xo L.length co] 26)).alloc (.cells #[.int .i64 (most : Int)] 3)) := ((Below.refl _ _).alloc (Nat.le_refl _) _).alloc (by simp) _
  have HB0 := Lib.hid hB0
  have HAL := Lib.hid (wAll q xo co L hL _ (h.below hB0))
  have HU := Lib.hid h
  have HX0 : Hid (Box ((w.alloc (.cells #[.slice xo L.length co] 26)).alloc (.cells #[.int .i64 (most : Int)] 3)) w.heap.size 26 (.slice xo L.length co) ∧ Box ((w.alloc (.cells #[.slice xo L.length co] 26)).alloc (.cells #[.int .i64 (most : Int)] 3)) (w.heap.size + 1) 3 (.int .i64 (most : Int))) := Lib.hid ⟨(heap_alloc_old _ _ (by simp)).trans (heap_alloc_new _ _), by
    have := heap_alloc_new (w.alloc (.cells #[.slice xo L.length co] 26)) (.cells #[.int .i64 (most : Int)] 3)
    unfold Box
    simpa only [World.size_alloc] using this⟩
  generalize hTQ : tx q = TQ at HAL ⊢
  clear hB0 h hi hz0 hz1 hz2 hq hL hLs hR hRl hmm hTQ
  refine (callsIn_wide (n := 6)).1 ?_
  refine callsIn_of_wp_marks Tryz.func24 rfl trivial ?_ rfl
  simp only [Tryz.ntmps24, List.size_toArray, List.length_cons, List.length_nil, Nat.reduceAdd, Nat.reduceSub, Array.replicate_succ, Array.replicate_zero, List.push_toArray, List.append_toArray, List.nil_append, List.cons_append]
  gi_wp2_with (first | (gi_at_call 48; fail))
  refine ⟨trivial, ?_⟩
  generalize ((w.alloc (.cells #[.slice xo L.length co] 26)).alloc (.cells #[.int .i64 (most : Int)] 3)) = W1 at HB0 HAL HX0 ⊢
  refine (callsIn_wide.2 HAL.out).mono ?_
  rintro e w1 ⟨bq, bl, y, cap, rfl, hal, hb⟩
  have HB1 := Lib.hid (HB0.out.trans (below_le hb HB0.out.size))
  have HX1 := Lib.hid (And.intro (HX0.out.1.kept HX0.out.1.lt hb) (HX0.out.2.kept HX0.out.2.lt hb))
  have HA1 := Lib.hid hal
  clear hal hb
  gi_wp2
  clear hfn
  have HI : Hid (TI w w1.heap.size (.slice xo L.length co) most (sieT q L) [] ((w1.alloc (.cells #[.slice none 0 0] 30)).alloc (.cells #[.bool true] 4))) := Lib.hid (by
    have hal : Below w1.heap.size w1 ((w1.alloc (.cells #[.slice none 0 0] 30)).alloc (.cells #[.bool true] 4)) := ((Below.refl _ _).alloc (Nat.le_refl _) _).alloc (by simp) _
    refine ⟨HX1.out.1.kept HX1.out.1.lt hal, HX1.out.2.kept HX1.out.2.lt hal, ⟨_, (heap_alloc_old _ _ (by simp)).trans (heap_alloc_new _ _), World.ownsRow_nil _ _ _ _⟩, ?_, HB1.out.trans (below_le hal HB1.out.size), by simp, by have := HX1.out.2.lt; omega⟩
    have := heap_alloc_new (w1.alloc (.cells #[.slice none 0 0] 30)) (.cells #[.bool true] 4)
    unfold Box
    simpa only [World.size_alloc] using this)
  have HC : Hid (AllO ((w1.alloc (.cells #[.slice none 0 0] 30)).alloc (.cells #[.bool true] 4)) bq bl q y cap L W1.heap.size ∧ ownAt ((w1.alloc (.cells #[.slice none 0 0] 30)).alloc (.cells #[.bool true] 4)) w1.heap.size = none) := Lib.hid ⟨HA1.out.below (((Below.refl _ _).alloc (Nat.le_refl _) _).alloc (by simp) _), by
    have hb : Box ((w1.alloc (.cells #[.slice none 0 0] 30)).alloc (.cells #[.bool true] 4)) w1.heap.size 30 (.slice none 0 0) := (heap_alloc_old _ _ (by simp)).trans (heap_alloc_new _ _)
    unfold ownAt
    rw [hb.cell]
    rfl⟩
  generalize (w1.alloc (.cells #[.slice none 0 0] 30)).alloc (.cells #[.bool true] 4) = W0 at HI HC ⊢
  generalize w1.heap.size = bx at HI HC ⊢
  clear HX1 HA1 HB1 HX0 HB0
  refine wpIn_rangeFunc_ownH rfl (by omega) (gf := 73) (lb := #[.pointer (some ⟨bq, 0, none⟩), .pointer (some ⟨bl, 0, none⟩)]) (by simp [go_sem]) trivial (enters_of Tryz.func73 (by kernel_rfl) rfl)
    (all_stops (bx := bx) HM.out.1 HM.out.2.1 HM.out.2.2.1 HC.out.1 HM.out.2.2.2.1 HM.out.2.2.2.2.1 (by have := HI.out.sz; omega) HC.out.2) KeepR.trans (keepR_b (by have := HI.out.sz; omega)) (Below.refl _ _) (fun _ => rfl)
    (fun (pre : List (Fin (sieT q L).length)) W => TI w bx (.slice xo L.length co) most (sieT q L) pre W ∧ pre.length ≤ most)
    (fun ce xs W => ce = .exit 0 ∧ xs.length = most + 1 ∧ TI w bx (.slice xo L.length co) most (sieT q L) xs.dropLast W)
    (OwnFrom.and (ti_own w bx _ most (sieT q L) _ HI.out.bel.size) (fun _ _ _ _ h _ _ => h))
    (fun ce => OwnFrom.and (fun _ _ _ _ h _ _ => h) (OwnFrom.and (fun _ _ _ _ h _ _ => h) (fun s A B row h hg hr => ti_own w bx _ most (sieT q L) _ HI.out.bel.size s.dropLast A B row h hg hr)))
    ⟨HI.out, Nat.zero_le _⟩
    (fun yy a' _ => a' = { tmps := #[.string TQ, .slice xo L.length co, .int .i64 (most : Int), undef, .pointer (some ⟨w.heap.size, 0, none⟩), .pointer (some ⟨w.heap.size + 1, 0, none⟩), .slice none 0 0, .bool false, .func (.func 73) #[] #[.pointer (some ⟨bq, 0, none⟩), .pointer (some ⟨bl, 0, none⟩)], .pointer (some ⟨bx, 0, none⟩), .pointer (some ⟨bx + 1, 0, none⟩), .int .i64 (rth (sieT q L) yy.1 : Nat), .string (fncT (sieT q L) L yy.1), .string TQ, .slice xo L.length co, .func (.func 73) #[] #[.pointer (some ⟨bq, 0, none⟩), .pointer (some ⟨bl, 0, none⟩)], .func (.func 73) #[] #[.pointer (some ⟨bq, 0, none⟩), .pointer (some ⟨bl, 0, none⟩)], .bool false, .func (.func 73) #[] #[.pointer (some ⟨bq, 0, none⟩), .pointer (some ⟨bl, 0, none⟩)], .int .i64 (rth (sieT q L) yy.1 : Nat), .string (fncT (sieT q L) L yy.1), undef, undef, undef, undef, undef, undef, undef, undef, undef, undef, undef, undef, undef, undef, undef, undef, undef, undef, undef, undef, undef, undef, undef, undef, undef, undef, undef, undef, undef], defers := [] })
    (fun _ _ _ _ _ _ h _ _ => h) ?assign ?body ?done ?stop
  case assign =>
    intro l pre x W K hI hK
    unfold fenc lenc
    have H := Lib.hid hK
    clear hK
    gi_wp2
    exact H.out _ _ (keepsFrom_below (Below.refl _ _)) (KeepR.refl _ _) hI rfl
  case body =>
    rintro l pre yy a' W hl' _ ⟨hI, hp⟩ rfl hlt
    obtain ⟨v, hb9, hrow⟩ := hI.ex
    obtain ⟨x7, c7, rfl⟩ := ownsRow_is hrow
    have k4 := hI.b4.cell
    have k5 := hI.b5.cell
    have k9 := hb9.cell
    have kk := hI.bk.cell
    have fk := hI.bk.frozen
    have HII := Lib.hid hI
    have HRW := Lib.hid hrow
    have HB9 := Lib.hid hb9
    have HP := Lib.hid hp
    have hsz := hI.sz
    have hxx := hI.hx
    by_cases hge : most ≤ pre.length
    · have i1 : (most : Int) ≤ (pre.length : Int) := by omega
      have HGE := Lib.hid hge
      clear hI hb9 hrow hp hge hlt
      gi_wp2
      exact ⟨KeepsFrom.refl _ _, rfl, by have := HGE.out; have := HP.out; simp; omega, by rw [List.dropLast_concat]; exact HII.out⟩
    · have i1 : ¬ (most : Int) ≤ (pre.length : Int) := by omega
      have HGE := Lib.hid hge
      have hrl := HM.out.2.2.2.1 ((sieT q L).getD yy.1 0) (by rw [List.getD_eq_getElem?_getD, List.getElem?_eq_getElem yy.2]; exact List.getElem_mem _)
      obtain ⟨xo', co', heo, hoc, _, hog⟩ := HU.out.old
      obtain ⟨rfl, rfl⟩ : xo = xo' ∧ co = co' := by simpa using heo
      obtain ⟨go, oo, rfl, hgo, hget⟩ := hog (List.ne_nil_of_length_pos (by omega))
      have ks := (hI.bel.cell (p := ⟨go, oo + (sieT q L).getD yy.1 0, none⟩) hgo).trans (hget _ hrl)
      have hbx : Box (W.setCell ⟨bx + 1, 0, none⟩ (.bool true)) bx 30 (.slice x7 pre.length c7) := (set_other (by omega)).trans hb9
      have hrw1 : (W.setCell ⟨bx + 1, 0, none⟩ (.bool true)).ownsRow (bx + 2) 3 1 (.slice x7 pre.length c7) pre.length (ints (rsOf (sieT q L) pre)) := row_kept hrow (fun j hj => set_other (fun e => by have := (hrow.lt j hj).1; omega))
      have HRB := Lib.hid (rebase hrw1)
      have HKP := Lib.hid (fun (w1 : World) (v' : Value) (k' : Nat) (ys : List Value) (tmp : Obj) ho hg => app_keep (B := W0.heap.size) (w1 := w1) (v' := v') (k' := k') (ys := ys) (tmp := tmp) hbx hrw1 (by simpa using hsz) (by omega) ho hg)
      have HBS := Lib.hid (show baseOf (W.setCell ⟨bx + 1, 0, none⟩ (.bool true)) (.slice x7 pre.length c7) ≤ W.heap.size by simpa using (baseOf_le hrw1 (by simpa using hsz)).1)
      obtain ⟨r, hr⟩ : ∃ r, r = rth (sieT q L) yy.1 := ⟨_, rfl⟩
      have hr2 : r = (sieT q L).getD yy.1 0 := hr
      have HR := Lib.hid hr2
      unfold fncT
      rw [← hr2] at ks hrl ⊢
      rw [← hr]
      generalize tx (L.getD r []) = X at ks ⊢
      obtain ⟨N, hN⟩ : ∃ N, N = pre.length := ⟨_, rfl⟩
      have HN := Lib.hid hN
      rw [← hN] at i1 k9 HRB HKP HBS
      have HL := Lib.hid (show N ≤ 1000 by have := HM.out.2.2.2.2.2; omega)
      have h7w : bx < W.heap.size := by omega
      have h8w : bx + 1 < W.heap.size := by omega
      have n5 : (X.toList == X.toList) = true := by simp
      have r0 : (0 : Int) ≤ (r : Int) := by omega
      have r1 : (r : Int) < (L.length : Int) := by omega
      have hs7 : N ≤ 1000 := by have := HM.out.2.2.2.2.2; omega
      clear hI hb9 hrow hp hge hlt hbx hrw1 hr hr2 hN heo hog hget hgo
      have HCN := Lib.hid (fun (O : Bool) j u hu => cell_new1 W ⟨bx + 1, 0, none⟩ (.bool O) (.int .i64 (r : Int)) 3 j u hu)
      gi_wp2_with (first | (gi_at_builtin; go_loud (refine wpListIn_append_own _ rfl _ _ 30 rfl (baseOf (W.setCell ⟨bx + 1, 0, none⟩ (.bool true)) (.slice x7 N c7)) 3 i3 (.int .i64 0) 1 8 Tryz.underlying30 HI9.out.1 HI9.out.2.1 HI9.out.2.2.1 HI9.out.2.2.2 rfl (by decide) _ _ _ rfl (HRB.out.alloc _) ⟨W.heap.size, 0, none⟩ 1 1 [.int .i64 (r : Int)] rfl rfl (HCN.out true) (by simp [Value.oneCell']) (by have := HL.out; unfold maxLen; omega) (by have := HL.out; omega) (by have := HBS.out; simp; omega) ?_); intro v1 w1' hown1 hgrow1 hnil1; obtain ⟨q1, q2, q3, q4, q5, q6, q7, q8, q9, q10⟩ := HKP.out w1' v1 _ _ _ hown1 hgrow1; have HT := Lib.hid (ti_next HII.out HN.out HR.out (by have := HI.out.sz; omega) q1 q3 q4 q5 q6 q7 q8 q9 q10); obtain ⟨gg, cp, rfl⟩ := ownsRow_is hown1; have cc := q2.cell; have ff := q2.frozen; have ll := q2.lt; clear q1 q2 q3 q4 q5 q6 q7 q8 q9 q10 hown1 hgrow1 hnil1))
      exact ⟨HT.out.1, HT.out.2.1, HT.out.2.2, by have := HGE.out; have := HP.out; simp; omega⟩
  case done =>
    rintro D xs W hD hS ⟨hI, hp⟩ hK
    have hl : xs.length = (sieT q L).length := by have := congrArg List.length hS; simpa using this
    obtain ⟨v, hb9, hrow⟩ := hI.ex
    obtain ⟨x7, c7, rfl⟩ := ownsRow_is hrow
    have k9 := hb9.cell
    have kk := hI.bk.cell
    have e1 : ((sieT q L).take most).length = (sieT q L).length := by simp; omega
    have HE := Lib.hid e1
    rw [hl] at k9
    have HT2 := told_fin hI hS (Nat.le_refl _) (by rw [List.take_of_length_le (Nat.le_refl _), List.take_of_length_le (by omega)]) hK (by have := HI.out.sz; have := HI.out.hx; omega) x7 c7 hrow
    have HK := Lib.hid (show W.drew.heap[D]? = some (.deferred (some [])) from hK)
    clear hI hb9 hrow hK hD hS hp hl
    have HT := Lib.hid HT2
    clear HT2
    gi_wp2
    gi_region
    gi_wp2
    refine ⟨by simp, .inl ⟨_, _, rfl, run_takeDeferred HK.out, ?_⟩⟩
    exact ⟨_, results_tmp2 rfl _ _ _, x7, c7, by rw [HE.out]; rfl, HT.out.1, HT.out.2⟩
  case stop =>
    rintro D ce pre W hD ⟨k, hk1, hk2, hk3⟩ ⟨rfl, hlen, hI⟩ hK
    have hl : pre.length = k := by have := congrArg List.length hk3; simpa using this
    have hk : k = most + 1 := by omega
    subst hk
    have hd : pre.dropLast.map (·.1) = List.range most := by rw [List.map_dropLast, hk3, List.range_succ, List.dropLast_concat]
    have hdl : pre.dropLast.length = most := by rw [List.length_dropLast]; omega
    obtain ⟨v, hb9, hrow⟩ := hI.ex
    obtain ⟨x7, c7, rfl⟩ := ownsRow_is hrow
    have k9 := hb9.cell
    have kk := hI.bk.cell
    have e1 : ((sieT q L).take most).length = most := by simp; omega
    have HE := Lib.hid e1
    rw [hdl] at k9
    have HT2 := told_fin hI hd (by omega) rfl hK (by have := HI.out.sz; have := HI.out.hx; omega) x7 c7 hrow
    have HK := Lib.hid (show W.drew.heap[D]? = some (.deferred (some [])) from hK)
    clear hI hb9 hrow hK hD hk1 hk2 hk3 hl hd hdl hlen
    have HT := Lib.hid HT2
    clear HT2
    gi_wp2
    gi_region
    gi_wp2
    refine ⟨by simp, .inl ⟨_, _, rfl, run_takeDeferred HK.out, ?_⟩⟩
    exact ⟨_, results_tmp2 rfl _ _ _, x7, c7, by rw [HE.out]; rfl, HT.out.1, HT.out.2⟩
end Go.Proofs.YtdehjofmangmbaaGreat
