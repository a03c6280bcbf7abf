/- Walks: New, Leave, Line, Older, Newer of the reference. -/
import Derived.Test.YtbaljpamhmbcjaaGreatKA
namespace Go.Proofs.YtbaljpamhmbcjaaGreat
open Go.RowKit Go.Shelf
theorem alloc_new1 (w : World) (o o2 : Obj) : ((w.alloc o).alloc o2).heap[w.heap.size + 1]? = some o2 := by
  have := heap_alloc_new (w.alloc o) o2
  simpa using this
theorem alloc_new2 (w : World) (o o2 o3 : Obj) : (((w.alloc o).alloc o2).alloc o3).heap[w.heap.size + 2]? = some o3 := by
  have := heap_alloc_new ((w.alloc o).alloc o2) o3
  simpa only [World.size_alloc, Nat.add_assoc] using this
theorem results_cell_tmp2 {P : Program} {fn : Func} {p q r : Tmp} {ty : TypeId} (h : fn.results = #[.cell p ty, .tmp q, .tmp r]) (tmps : Array Value) (w : World) (g : Nat) (t : TypeId) (cs : Array Value) (fr : Nat × Nat) (d : TypeDesc)
    (hp : tmps.getD p undef = .pointer (some ⟨g, 0, none⟩)) (hg : w.heap[g]? = some (.cells cs t fr))
    (hu : P.underlying ty = some d) (hd : (match d with | .struct _ | .array _ _ => true | _ => false) = true) (hi : (P.info? ty).map (·.size) = some cs.size) :
    (results fn tmps).run P w = .ok (.tuple #[.agg cs, tmps.getD q undef, tmps.getD r undef]) w := by
  have hp' : tmps[p]?.getD undef = .pointer (some ⟨g, 0, none⟩) := by simpa using hp
  simp [results, h, hp', asAddr, run_loadVar_row w g t ty cs fr d hg hu hd hi]
/-- The reference's history as a value. -/
def rV (m : Int) (x : Option Addr) (n c : Nat) (k : Wk) : Value := .agg (hisCells m x n c k)
theorem rNew (m : Int) (h1 : 1 ≤ m) (h2 : m ≤ 256) (w : World) : Calls Tryz.prog 18 #[.int .i64 m] w fun e w' => e = .returned (.tuple #[rV m none 0 0 Wk.no, .int .i64 0]) ∧ Below w.heap.size w w' := by
  have i1 : ¬ m < 1 := by omega
  have i2 : ¬ 256 < m := by omega
  have HE : Hid (∀ k x n c, rV m x n c k = .agg (hisCells m x n c k)) := Lib.hid (fun _ _ _ _ => rfl)
  go_enter Tryz.func18, Tryz.ntmps18
  go_wp2
  refine bodyPost_ret (results_cell_tmp rfl _ _ w.heap.size 28 _ (0, 0) _ rfl (heap_alloc_new _ _) Tryz.underlying28 rfl (by kernel_rfl)) rfl ?_
  exact ⟨by rw [HE.out]; rfl, (Below.refl _ _).alloc (Nat.le_refl _) _⟩
theorem rNew_no (m : Int) (h : m < 1 ∨ 256 < m) (w : World) : Calls Tryz.prog 18 #[.int .i64 m] w fun e w' => e = .returned (.tuple #[rV 0 none 0 0 Wk.no, .int .i64 140]) ∧ Below w.heap.size w w' := by
  have HE : Hid (∀ k x n c, rV 0 x n c k = .agg (hisCells 0 x n c k)) := Lib.hid (fun _ _ _ _ => rfl)
  by_cases i1 : m < 1
  · go_enter Tryz.func18, Tryz.ntmps18
    go_wp2
    refine bodyPost_ret (results_cell_tmp rfl _ _ w.heap.size 28 _ (0, 0) _ rfl (heap_alloc_new _ _) Tryz.underlying28 rfl (by kernel_rfl)) rfl ?_
    exact ⟨by rw [HE.out]; rfl, (Below.refl _ _).alloc (Nat.le_refl _) _⟩
  · have i2 : 256 < m := by omega
    go_enter Tryz.func18, Tryz.ntmps18
    go_wp2
    refine bodyPost_ret (results_cell_tmp rfl _ _ w.heap.size 28 _ (0, 0) _ rfl (heap_alloc_new _ _) Tryz.underlying28 rfl (by kernel_rfl)) rfl ?_
    exact ⟨by rw [HE.out]; rfl, (Below.refl _ _).alloc (Nat.le_refl _) _⟩
set_option maxHeartbeats 1000000 in
theorem rLine (m : Int) (x : Option Addr) (L : List Bs) (c : Nat) (k : Wk) (i : Int) (w : World) (h : SeesL w x c L) : Calls Tryz.prog 26 #[rV m x L.length c k, .int .i64 i] w fun e w' => e = twoE (lineS L i).1 (lineS L i).2 ∧ Below w.heap.size w w' := by
  obtain ⟨on, d, g, a⟩ := k
  unfold rV hisCells twoE
  simp only
  have HH := Lib.hid h
  have hL := h.2.1
  obtain ⟨D, hD⟩ : ∃ D, D = tx d := ⟨_, rfl⟩
  obtain ⟨G, hG⟩ : ∃ D, D = tx g := ⟨_, rfl⟩
  rw [← hD, ← hG]
  obtain ⟨n, hn⟩ : ∃ n, n = L.length := ⟨_, rfl⟩
  rw [← hn] at hL ⊢
  have HB := Lib.hid ((Below.refl w.heap.size w).alloc (Nat.le_refl _) (.cells #[.int .i64 m, .slice x n c, .bool on, .string D, .string G, .int .i64 a] 28))
  clear h hD hG
  by_cases hi : 0 ≤ i ∧ i < L.length
  · have e1 : lineS L i = (L.getD i.toNat [], true) := by unfold lineS; rw [if_pos hi]
    rw [e1]
    clear e1
    obtain ⟨j, rfl⟩ : ∃ j : Nat, i = (j : Int) := ⟨i.toNat, by omega⟩
    have hj : j < L.length := by omega
    obtain ⟨gg, rfl, hg, hget⟩ := HH.out.2.2 (by omega)
    have ce := (HB.out.cell (p := ⟨gg, j, none⟩) hg).trans (hget j hj)
    rw [Int.toNat_natCast]
    obtain ⟨X, hX⟩ : ∃ X, X = tx (L.getD j []) := ⟨_, rfl⟩
    rw [← hX] at ce ⊢
    have i1 : (0 : Int) ≤ (j : Int) := by omega
    have i2 : ¬ (j : Int) < 0 := by omega
    have i3 : (j : Int) < (n : Int) := by omega
    clear hX hget hn hi hj HH
    go_enter Tryz.func26, Tryz.ntmps26
    go_wp2
    go_ret2
    exact ⟨rfl, HB.out⟩
  · have e1 : lineS L i = ([], false) := by unfold lineS; rw [if_neg hi]
    rw [e1]
    clear e1
    rw [← hn] at hi
    clear hn HH
    by_cases i1 : i < 0
    · clear hi
      go_enter Tryz.func26, Tryz.ntmps26
      go_wp2
      go_ret2
      exact ⟨rfl, HB.out⟩
    · have i2 : (n : Int) ≤ i := by omega
      clear hi
      go_enter Tryz.func26, Tryz.ntmps26
      go_wp2
      go_ret2
      exact ⟨rfl, HB.out⟩
theorem quiet_sym {P : Program} {f : FuncId} {args : Array Value} {w : World} {n : Nat} {v : Value}
    (h : Calls P f args (w.drewN n) fun e w' => e = .returned v ∧ w.drewN n = w') : Calls P f args (w.drewN n) fun e w'' => e = .returned v ∧ ∃ m, w'' = w.drewN m :=
  h.mono fun _ _ ⟨he, hm⟩ => ⟨he, n, hm.symm⟩
theorem cells6 {W : World} {q : Nat} {v0 v1 v2 v3 v4 v5 : Value} {t : TypeId} (h : W.heap[q]? = some (.cells #[v0, v1, v2, v3, v4, v5] t (0, 0))) : W.cell? ⟨q, 0, none⟩ = some v0 ∧ W.cell? ⟨q, 1, none⟩ = some v1 ∧ W.cell? ⟨q, 2, none⟩ = some v2 ∧ W.cell? ⟨q, 3, none⟩ = some v3 ∧ W.cell? ⟨q, 4, none⟩ = some v4 ∧ W.cell? ⟨q, 5, none⟩ = some v5 ∧ ∀ j, W.frozen? ⟨q, j, none⟩ = false := by
  refine ⟨?_, ?_, ?_, ?_, ?_, ?_, fun j => ?_⟩ <;> first | simp [World.cell?, h] | simp [World.frozen?, h]
end Go.Proofs.YtbaljpamhmbcjaaGreat
