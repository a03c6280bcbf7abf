/- Walks: the iterator over the lines of a made history. -/
import Derived.Test.YtbaljpamhmbcjaaGreatHP
namespace Go.Proofs.YtbaljpamhmbcjaaGreat
open Go.RowKit Go.Shelf
attribute [local go_sem] Oper.semAt_some
theorem wclone {W : World} {x : Option Addr} {c : Nat} {L : List Bs} (h : RowL W x c L) (hL : L.length ≤ 1000) : Calls Tryz.prog 15 #[.slice x L.length c] W fun e w' => ∃ y cap, e = .returned (.slice y L.length cap) ∧ w'.ownsRow W.heap.size 9 1 (.slice y L.length cap) L.length (strs L) ∧ Below W.heap.size W w' := by
  by_cases h0 : L = []
  · subst h0
    cases x with
    | none =>
      refine (Tryz.slices_Clone_string_nil 0 c W).mono ?_
      rintro e w' ⟨rfl, rfl⟩
      exact ⟨none, 0, rfl, World.ownsRow_nil _ _ _ _, Below.refl _ _⟩
    | some a =>
      refine (Tryz.slices_Clone_string_zero a c W).mono ?_
      rintro e w' ⟨v, rfl, hv, _, hb⟩
      obtain ⟨y, cap, rfl⟩ := ownsRow_is hv
      exact ⟨y, cap, rfl, hv, hb⟩
  · have hp : 0 < L.length := List.length_pos_iff.2 h0
    obtain ⟨g, rfl, hg, hcap, hget⟩ := h.get 0 hp
    refine (Tryz.slices_Clone_string g 0 L.length c (L.map tx) W (by simp) (by omega) (fun j hj => ?_)).mono ?_
    · have hj' : j < L.length := by simpa using hj
      rw [Nat.zero_add, hget j hj', List.getD_eq_getElem?_getD, List.getD_eq_getElem?_getD, List.getElem?_map, List.getElem?_eq_getElem hj']
      rfl
    · rintro e w' ⟨v, rfl, hv, _, hb⟩
      obtain ⟨y, cap, rfl⟩ := ownsRow_is hv
      refine ⟨y, cap, rfl, ?_, hb⟩
      have e1 : ((L.map tx).take L.length).map Value.string = strs L := by simp [strs, List.take_of_length_le]
      rw [e1] at hv
      exact hv
def ownAt (A : World) (bx : Nat) : Option Nat := (A.cell? ⟨bx, 0, none⟩).bind Value.ownBlock
/-- What a round keeps: every row of texts, but for the box, that lies ahead of the one that the box's slice owns. -/
structure KeepR (bx : Nat) (A B : World) : Prop where
  size : A.heap.size ≤ B.heap.size
  own : ∀ j, ownAt B bx = some j → (∃ g, ownAt A bx = some g ∧ g ≤ j) ∨ A.heap.size ≤ j
  row : ∀ j cur r, A.heap[j]? = some (.cells cur 9 r) → j ≠ bx → (∀ g, ownAt A bx = some g → j < g) → B.heap[j]? = A.heap[j]?
theorem KeepR.refl (bx : Nat) (A : World) : KeepR bx A A := ⟨Nat.le_refl _, fun j h => .inl ⟨j, h, Nat.le_refl _⟩, fun _ _ _ _ _ _ => rfl⟩
theorem KeepR.trans {bx : Nat} {A B C : World} (h : KeepR bx A B) (k : KeepR bx B C) : KeepR bx A C := by
  refine ⟨Nat.le_trans h.size k.size, fun j hj => ?_, fun j cur r hr hne hn => ?_⟩
  · rcases k.own j hj with ⟨g, q, hg⟩ | q
    · rcases h.own g q with ⟨g0, z, hz⟩ | z
      · exact .inl ⟨g0, z, Nat.le_trans hz hg⟩
      · exact .inr (Nat.le_trans z hg)
    · exact .inr (Nat.le_trans h.size q)
  · have h1 := h.row j cur r hr hne hn
    have hlt := (Array.getElem?_eq_some_iff.1 hr).1
    refine (k.row j cur r (h1.trans hr) hne (fun g q => ?_)).trans h1
    rcases h.own g q with ⟨g0, z, hz⟩ | z
    · have := hn g0 z; omega
    · omega
theorem keepR_b {bx : Nat} {w : World} (hb : bx < w.heap.size) : ∀ (W : World) (l : Nat) (o o' : Obj), w.heap.size ≤ l → W.heap[l]? = some o → o.isCells = false → o.isWalk = false → KeepR bx W (W.putObj l o') := fun W l o o' hl ho h1 _ => by
  have e : ownAt (W.putObj l o') bx = ownAt W bx := by unfold ownAt; rw [World.cell?_of_block (World.putObj_heap_other (show bx ≠ l by omega))]
  refine ⟨by simp, fun j hj => .inl ⟨j, by rwa [e] at hj, Nat.le_refl _⟩, fun j cur r hr _ _ => World.putObj_heap_other (fun q => ?_)⟩
  subst q
  rw [hr] at ho
  cases ho
  cases h1
def lnT (L : List Bs) (i : Nat) : ByteArray := tx (L.getD i [])
/-- What a line is told as. -/
def lenc (L : List Bs) (i : Nat) : Array Value := #[.int .i64 (i : Nat), .string (lnT L i)]
set_option maxRecDepth 100000 in
set_option maxHeartbeats 2000000 in
theorem hall_in (l B bx b : Nat) (m : Int) (hm : 0 < m) (L : List Bs) (hL : L.length ≤ 1000) (k0 : Wk) (x : Option Addr) (c : Nat) (W : World) (h : His W b m L k0 x c)
    (hB : W.cell? ⟨B, 0, none⟩ = some (.pointer (some ⟨b, 0, none⟩))) (hbx : ownAt W bx = none) (hbxl : bx < W.heap.size)
    (J Jx : List Nat → World → Prop) (hA : AbidesFrom W.heap.size J)
    (hY : ∀ k W1, J (List.range k) W1 → k < L.length → YieldAt Fence.wide 4 Tryz.prog l (lenc L k) W1 fun e W' =>
      (e = .returned (.bool true) ∧ J (List.range (k + 1)) W' ∧ KeepR bx W1 W') ∨ (e = .returned (.bool false) ∧ Jx (List.range (k + 1)) W'))
    (hJ0 : J [] W) :
    CallsIn Fence.wide 5 Tryz.prog 41 #[.func (.yield l) #[] #[], .pointer (some ⟨B, 0, none⟩)] W fun e W' => (∃ v, e = .returned v) ∧
      ((∃ xs, xs = List.range L.length ∧ J xs W') ∨ (∃ pre, (∃ k, k ≤ L.length ∧ 0 < k ∧ pre = List.range k) ∧ Jx pre W')) := by
  have HMD := Lib.hid (wmade b m W h.cells.1)
  rw [decide_eq_true hm] at HMD
  obtain ⟨-, c1, -⟩ := h.cells
  have HCL := Lib.hid (wclone h.row hL)
  have HY := Lib.hid hY
  have HA := Lib.hid hA
  have HBX := Lib.hid (And.intro hbx hbxl)
  obtain ⟨n, hn⟩ : ∃ n, n = L.length := ⟨_, rfl⟩
  have HN := Lib.hid hn
  rw [← hn] at c1 hL HCL HY ⊢
  clear hY hA hbx hbxl h hm hn
  refine callsIn_of_wp Tryz.func41 rfl trivial ?_ rfl
  simp only [Tryz.ntmps41, List.size_toArray, List.length_cons, List.length_nil, Nat.reduceAdd, Nat.reduceSub, Array.replicate_succ, Array.replicate_zero, List.push_toArray, List.append_toArray, List.nil_append, List.cons_append]
  gi_wp2_with (first | (refine ⟨trivial, ?_⟩; gi_at_call 31; refine (callsIn_wide.2 HMD.out).mono ?_; rintro e w1 ⟨rfl, rfl⟩) | (gi_at_call 15; fail))
  refine ⟨trivial, ?_⟩
  refine (callsIn_wide.2 HCL.out).mono ?_
  rintro e w1 ⟨y, cap, rfl, hrow, hb⟩
  have HR := Lib.hid hrow
  have hJ1 := HA.out _ W w1 none hJ0 ⟨hb.os, hb.tape, hb.output, hb.size, fun i hi _ => hb.block i hi⟩ (fun r e => by cases e)
  have HO : Hid (ownAt w1 bx = none ∧ W.heap.size ≤ w1.heap.size) := Lib.hid ⟨by
    unfold ownAt
    rw [World.cell?_of_block (a := ⟨bx, 0, none⟩) (hb.block bx HBX.out.2)]
    exact HBX.out.1, hb.size⟩
  clear hrow hb
  gi_wp2
  gi_loopw [14] (fun i wy => ∃ j : Nat, j ≤ n ∧ i = .int .i64 j ∧ J (List.range j) wy ∧ Hid (KeepR bx w1 wy)) (fun i _ => n - (intOf i).toNat)
  case atStart => exact ⟨0, Nat.zero_le _, rfl, hJ1, Lib.hid (KeepR.refl _ _)⟩
  case round =>
    obtain ⟨j, hj, rfl, hJ2, HK⟩ := hrel
    by_cases hlt : j < n
    · have hR2 := HR.out
      rcases hR2.2 with ⟨hv, h0⟩ | ⟨g, cap', cur, hv, hgb, hg, hnc, _⟩
      · omega
      · cases hv
        have k1 := HK.out.row g cur _ hg (by have := HBX.out.2; omega) (fun g0 hg0 => by rw [HO.out.1] at hg0; cases hg0)
        have ck : wr.cell? ⟨g, j, none⟩ = some (.string (tx (L.getD j []))) := by
          rw [World.cell?_of_block (a := ⟨g, j, none⟩) k1]
          have h1 := hR2.cellAt j (by omega)
          rw [h1, strs, List.getElem?_map, List.getElem?_eq_getElem (by have := HN.out; omega), List.getD_eq_getElem?_getD, List.getElem?_eq_getElem (by have := HN.out; omega)]
          rfl
        obtain ⟨fn, tmps, assign, body, hy, hR⟩ := HY.out j wr hJ2 hlt
        unfold lenc lnT at hy
        have HRR := Lib.hid hR
        obtain ⟨X, hX⟩ : ∃ X, X = tx (L.getD j []) := ⟨_, rfl⟩
        rw [← hX] at ck hy
        clear hR2 hg k1 hR hgb hJ2 hX
        have i1 : (0 : Int) ≤ (j : Int) := by omega
        have i2 : (j : Int) < (n : Int) := by omega
        gi_wp2
        refine HRR.out.mono ?_
        rintro e W3 (⟨rfl, hJ3, hk3⟩ | ⟨rfl, hJx3⟩)
        · gi_wp2
          go_roundw
          case rel => exact ⟨j + 1, by omega, by go_num, hJ3, Lib.hid (HK.out.trans hk3)⟩
          case measure => simp [intOf]; omega
        · gi_wp2
          refine bodyPost_ret (results_none rfl _ _ _) rfl ?_
          exact ⟨⟨_, rfl⟩, .inr ⟨_, ⟨j + 1, by omega, by omega, rfl⟩, hJx3⟩⟩
    · obtain rfl : j = n := by omega
      gi_wp2
      go_end0
      exact ⟨⟨_, rfl⟩, .inl ⟨_, rfl, hJ2⟩⟩
def fenc (L : List Bs) (x : Fin L.length) : Array Value := lenc L x.1
theorem hall_stops {b B bx : Nat} {m : Int} {L : List Bs} {k : Wk} {x : Option Addr} {c : Nat} {w1 : World} (hm : 0 < m) (hL : L.length ≤ 1000) (h : His w1 b m L k x c) (hBl : B < w1.heap.size) (hB : w1.cell? ⟨B, 0, none⟩ = some (.pointer (some ⟨b, 0, none⟩)))
    (hbxl : bx < w1.heap.size) (hbx : ownAt w1 bx = none) :
    SeqStopsK Fence.wide 5 Tryz.prog 41 #[.pointer (some ⟨B, 0, none⟩)] (fenc L) (KeepR bx) (fun xs => xs.map (·.1) = List.range L.length) (fun pre => ∃ k, k ≤ L.length ∧ 0 < k ∧ pre.map (·.1) = List.range k) L.length w1 := fun l J Jx W hW hA _ hY h0 => by
  refine (hall_in l B bx b m hm L hL k x c W (h.below hW) ((hW.cell (p := ⟨B, 0, none⟩) hBl).trans hB) (by unfold ownAt; rw [World.cell?_of_block (a := ⟨bx, 0, none⟩) (hW.block bx hbxl)]; exact hbx) (by have := hW.size; omega)
    (fun q W => ∃ fs : List (Fin L.length), q = fs.map (·.1) ∧ J fs W) (fun q W => ∃ fs : List (Fin L.length), q = fs.map (·.1) ∧ Jx fs W) (fun s A B row ⟨fs, h1, h2⟩ hg hr => ⟨fs, h1, hA fs A B row h2 hg hr⟩) ?_ ⟨[], rfl, h0⟩).mono ?_
  · rintro k W1 ⟨fs, hfs, hJ⟩ hlt
    have hl : fs.length = k := by have := congrArg List.length hfs; simpa using this.symm
    refine (hY fs ⟨k, hlt⟩ W1 hJ (by omega)).mono ?_
    have e : List.range (k + 1) = (fs ++ [(⟨k, hlt⟩ : Fin L.length)]).map (·.1) := by rw [List.range_succ, hfs]; simp
    rintro e' W' (⟨he, h1, h2⟩ | ⟨he, h1⟩)
    · exact .inl ⟨he, ⟨_, e, h1⟩, h2⟩
    · exact .inr ⟨he, _, e, h1⟩
  · rintro e W' ⟨he, ⟨xs, hx, fs, hf, hJ⟩ | ⟨pre, ⟨k, h1, h2, h3⟩, fs, hf, hJ⟩⟩
    · exact ⟨he, .inl ⟨fs, hf.symm.trans hx, hJ⟩⟩
    · exact ⟨he, .inr ⟨fs, ⟨k, h1, h2, hf.symm.trans h3⟩, hJ⟩⟩
end Go.Proofs.YtbaljpamhmbcjaaGreat
