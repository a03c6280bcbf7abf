/- Walks: New, Leave, Line, Older, Newer of the reference. -/
import Derived.Test.YtbaljpamhmbcjaaKA
namespace Go.Proofs.Ytbaljpamhmbcjaa
open Go.RowKit Go.Shelf
theorem alloc_new1 (w : World) (o o2 : Obj) : ((w.alloc o).alloc o2).heap[w.heap.size + 1]? = some o2 := by
  have := heap_alloc_new (w.alloc o) o2
  simpa using this
theorem alloc_new2 (w : World) (o o2 o3 : Obj) : (((w.alloc o).alloc o2).alloc o3).heap[w.heap.size + 2]? = some o3 := by
  have := heap_alloc_new ((w.alloc o).alloc o2) o3
  simpa only [World.size_alloc, Nat.add_assoc] using this
theorem results_cell_tmp2 {P : Program} {fn : Func} {p q r : Tmp} {ty : TypeId} (h : fn.results = #[.cell p ty, .tmp q, .tmp r]) (tmps : Array Value) (w : World) (g : Nat) (t : TypeId) (cs : Array Value) (fr : Nat × Nat) (d : TypeDesc)
    (hp : tmps.getD p undef = .pointer (some ⟨g, 0, none⟩)) (hg : w.heap[g]? = some (.cells cs t fr))
    (hu : P.underlying ty = some d) (hd : (match d with | .struct _ | .array _ _ => true | _ => false) = true) (hi : (P.info? ty).map (·.size) = some cs.size) :
    (results fn tmps).run P w = .ok (.tuple #[.agg cs, tmps.getD q undef, tmps.getD r undef]) w := by
  have hp' : tmps[p]?.getD undef = .pointer (some ⟨g, 0, none⟩) := by simpa using hp
  simp [results, h, hp', asAddr, run_loadVar_row w g t ty cs fr d hg hu hd hi]
/-- The reference's history as a value. -/
def rV (m : Int) (x : Option Addr) (n c : Nat) (k : Wk) : Value := .agg (hisCells m x n c k)
theorem rNew (m : Int) (h1 : 1 ≤ m) (h2 : m ≤ 256) (w : World) : Calls Try.prog 17 #[.int .i64 m] w fun e w' => e = .returned (.tuple #[rV m none 0 0 Wk.no, .int .i64 0]) ∧ Below w.heap.size w w' := by
  have i1 : ¬ m < 1 := by omega
  have i2 : ¬ 256 < m := by omega
  have HE : Hid (∀ k x n c, rV m x n c k = .agg (hisCells m x n c k)) := Lib.hid (fun _ _ _ _ => rfl)
  go_enter Try.func17, Try.ntmps17
  go_wp2
  refine bodyPost_ret (results_cell_tmp rfl _ _ w.heap.size 41 _ (0, 0) _ rfl (heap_alloc_new _ _) Try.underlying41 rfl (by kernel_rfl)) rfl ?_
  exact ⟨by rw [HE.out]; rfl, (Below.refl _ _).alloc (Nat.le_refl _) _⟩
theorem rNew_no (m : Int) (h : m < 1 ∨ 256 < m) (w : World) : Calls Try.prog 17 #[.int .i64 m] w fun e w' => e = .returned (.tuple #[rV 0 none 0 0 Wk.no, .int .i64 140]) ∧ Below w.heap.size w w' := by
  have HE : Hid (∀ k x n c, rV 0 x n c k = .agg (hisCells 0 x n c k)) := Lib.hid (fun _ _ _ _ => rfl)
  by_cases i1 : m < 1
  · go_enter Try.func17, Try.ntmps17
    go_wp2
    refine bodyPost_ret (results_cell_tmp rfl _ _ w.heap.size 41 _ (0, 0) _ rfl (heap_alloc_new _ _) Try.underlying41 rfl (by kernel_rfl)) rfl ?_
    exact ⟨by rw [HE.out]; rfl, (Below.refl _ _).alloc (Nat.le_refl _) _⟩
  · have i2 : 256 < m := by omega
    go_enter Try.func17, Try.ntmps17
    go_wp2
    refine bodyPost_ret (results_cell_tmp rfl _ _ w.heap.size 41 _ (0, 0) _ rfl (heap_alloc_new _ _) Try.underlying41 rfl (by kernel_rfl)) rfl ?_
    exact ⟨by rw [HE.out]; rfl, (Below.refl _ _).alloc (Nat.le_refl _) _⟩
set_option maxHeartbeats 1000000 in
theorem rLeave (m : Int) (x : Option Addr) (n c : Nat) (k : Wk) (w : World) : Calls Try.prog 36 #[rV m x n c k] w fun e w' => e = .returned (.tuple #[rV m x n c Wk.no, .bool k.on]) ∧ Below w.heap.size w w' := by
  have HE : Hid (∀ k, rV m x n c k = .agg (hisCells m x n c k)) := Lib.hid (fun _ => rfl)
  obtain ⟨on, d, g, a⟩ := k
  unfold rV hisCells
  simp only
  obtain ⟨D, hD⟩ : ∃ D, D = tx d := ⟨_, rfl⟩
  obtain ⟨G, hG⟩ : ∃ D, D = tx g := ⟨_, rfl⟩
  rw [← hD, ← hG]
  clear hD hG
  go_enter Try.func36, Try.ntmps36
  go_wp2
  refine bodyPost_ret (results_cell_tmp rfl _ _ (w.heap.size + 1) 41 _ (0, 0) _ rfl (alloc_new1 _ _ _) Try.underlying41 rfl (by kernel_rfl)) rfl ?_
  exact ⟨rfl, ((Below.refl _ _).alloc (Nat.le_refl _) _).alloc (by simp) _⟩
set_option maxHeartbeats 1000000 in
theorem rLine (m : Int) (x : Option Addr) (L : List Bs) (c : Nat) (k : Wk) (i : Int) (w : World) (h : SeesL w x c L) : Calls Try.prog 38 #[rV m x L.length c k, .int .i64 i] w fun e w' => e = twoE (lineS L i).1 (lineS L i).2 ∧ Below w.heap.size w w' := by
  obtain ⟨on, d, g, a⟩ := k
  unfold rV hisCells twoE
  simp only
  have HH := Lib.hid h
  have hL := h.2.1
  obtain ⟨D, hD⟩ : ∃ D, D = tx d := ⟨_, rfl⟩
  obtain ⟨G, hG⟩ : ∃ D, D = tx g := ⟨_, rfl⟩
  rw [← hD, ← hG]
  obtain ⟨n, hn⟩ : ∃ n, n = L.length := ⟨_, rfl⟩
  rw [← hn] at hL ⊢
  have HB := Lib.hid ((Below.refl w.heap.size w).alloc (Nat.le_refl _) (.cells #[.int .i64 m, .slice x n c, .bool on, .string D, .string G, .int .i64 a] 41))
  clear h hD hG
  by_cases hi : 0 ≤ i ∧ i < L.length
  · have e1 : lineS L i = (L.getD i.toNat [], true) := by unfold lineS; rw [if_pos hi]
    rw [e1]
    clear e1
    obtain ⟨j, rfl⟩ : ∃ j : Nat, i = (j : Int) := ⟨i.toNat, by omega⟩
    have hj : j < L.length := by omega
    obtain ⟨gg, rfl, hg, hget⟩ := HH.out.2.2 (by omega)
    have ce := (HB.out.cell (p := ⟨gg, j, none⟩) hg).trans (hget j hj)
    rw [Int.toNat_natCast]
    obtain ⟨X, hX⟩ : ∃ X, X = tx (L.getD j []) := ⟨_, rfl⟩
    rw [← hX] at ce ⊢
    have i1 : (0 : Int) ≤ (j : Int) := by omega
    have i2 : ¬ (j : Int) < 0 := by omega
    have i3 : (j : Int) < (n : Int) := by omega
    clear hX hget hn hi hj HH
    go_enter Try.func38, Try.ntmps38
    go_wp2
    go_ret2
    exact ⟨rfl, HB.out⟩
  · have e1 : lineS L i = ([], false) := by unfold lineS; rw [if_neg hi]
    rw [e1]
    clear e1
    rw [← hn] at hi
    clear hn HH
    by_cases i1 : i < 0
    · clear hi
      go_enter Try.func38, Try.ntmps38
      go_wp2
      go_ret2
      exact ⟨rfl, HB.out⟩
    · have i2 : (n : Int) ≤ i := by omega
      clear hi
      go_enter Try.func38, Try.ntmps38
      go_wp2
      go_ret2
      exact ⟨rfl, HB.out⟩
theorem quiet_sym {P : Program} {f : FuncId} {args : Array Value} {w : World} {n : Nat} {v : Value}
    (h : Calls P f args (w.drewN n) fun e w' => e = .returned v ∧ w.drewN n = w') : Calls P f args (w.drewN n) fun e w'' => e = .returned v ∧ ∃ m, w'' = w.drewN m :=
  h.mono fun _ _ ⟨he, hm⟩ => ⟨he, n, hm.symm⟩
/-- Three blocks of the reference's own. -/
structure RB (w : World) (A Z G : Array Value) (W : World) : Prop where
  a : W.heap[w.heap.size]? = some (.cells A 41 (0, 0))
  z : W.heap[w.heap.size + 1]? = some (.cells Z 41 (0, 0))
  g : W.heap[w.heap.size + 2]? = some (.cells G 41 (0, 0))
  bel : Below w.heap.size w W
theorem RB.start (w : World) (A Z G : Array Value) : RB w A Z G (((w.alloc (.cells A 41)).alloc (.cells Z 41)).alloc (.cells G 41)) :=
  ⟨(heap_alloc_old _ _ (by simp; omega)).trans ((heap_alloc_old _ _ (by simp)).trans (heap_alloc_new _ _)), (heap_alloc_old _ _ (by simp)).trans (alloc_new1 _ _ _), alloc_new2 _ _ _ _, (((Below.refl _ _).alloc (Nat.le_refl _) _).alloc (by simp) _).alloc (by simp; omega) _⟩
theorem RB.drewN {w : World} {A Z G : Array Value} {W : World} (h : RB w A Z G W) (m : Nat) : RB w A Z G (W.drewN m) := ⟨h.a, h.z, h.g, below_drewN h.bel m⟩
theorem cells6 {W : World} {q : Nat} {v0 v1 v2 v3 v4 v5 : Value} {t : TypeId} (h : W.heap[q]? = some (.cells #[v0, v1, v2, v3, v4, v5] t (0, 0))) : W.cell? ⟨q, 0, none⟩ = some v0 ∧ W.cell? ⟨q, 1, none⟩ = some v1 ∧ W.cell? ⟨q, 2, none⟩ = some v2 ∧ W.cell? ⟨q, 3, none⟩ = some v3 ∧ W.cell? ⟨q, 4, none⟩ = some v4 ∧ W.cell? ⟨q, 5, none⟩ = some v5 ∧ ∀ j, W.frozen? ⟨q, j, none⟩ = false := by
  refine ⟨?_, ?_, ?_, ?_, ?_, ?_, fun j => ?_⟩ <;> first | simp [World.cell?, h] | simp [World.frozen?, h]
/-- A struct stored whole. -/
theorem set6_heap {W : World} {q : Nat} {v0 v1 v2 v3 v4 v5 : Value} {t : TypeId} (h : W.heap[q]? = some (.cells #[v0, v1, v2, v3, v4, v5] t (0, 0))) (a0 a1 a2 a3 a4 a5 : Value) : ((((((W.setCell ⟨q, 0, none⟩ a0).setCell ⟨q, 1, none⟩ a1).setCell ⟨q, 2, none⟩ a2).setCell ⟨q, 3, none⟩ a3).setCell ⟨q, 4, none⟩ a4).setCell ⟨q, 5, none⟩ a5).heap[q]? = some (.cells #[a0, a1, a2, a3, a4, a5] t (0, 0)) :=
  set_block (set_block (set_block (set_block (set_block (set_block h (o := 0) a0) (o := 1) a1) (o := 2) a2) (o := 3) a3) (o := 4) a4) (o := 5) a5
theorem heap_of_drew {W : World} {q : Nat} {o : Option Obj} (h : W.heap[q]? = o) : W.drew.heap[q]? = o := h
theorem set6_drew {W : World} {q : Nat} {v0 v1 v2 v3 v4 v5 : Value} {t : TypeId} (h : W.heap[q]? = some (.cells #[v0, v1, v2, v3, v4, v5] t (0, 0))) (a0 a1 a2 a3 a4 a5 : Value) : ((((((W.setCell ⟨q, 0, none⟩ a0).setCell ⟨q, 1, none⟩ a1).setCell ⟨q, 2, none⟩ a2).setCell ⟨q, 3, none⟩ a3).setCell ⟨q, 4, none⟩ a4).setCell ⟨q, 5, none⟩ a5).drew.heap[q]? = some (.cells #[a0, a1, a2, a3, a4, a5] t (0, 0)) := heap_of_drew (set6_heap h a0 a1 a2 a3 a4 a5)
theorem set6_below {B : Nat} {w W : World} {q : Nat} (h : Below B w W) (hq : B ≤ q) (a0 a1 a2 a3 a4 a5 : Value) : Below B w ((((((W.setCell ⟨q, 0, none⟩ a0).setCell ⟨q, 1, none⟩ a1).setCell ⟨q, 2, none⟩ a2).setCell ⟨q, 3, none⟩ a3).setCell ⟨q, 4, none⟩ a4).setCell ⟨q, 5, none⟩ a5) :=
  (((((h.setCell (p := ⟨q, 0, none⟩) hq _).setCell (p := ⟨q, 1, none⟩) hq _).setCell (p := ⟨q, 2, none⟩) hq _).setCell (p := ⟨q, 3, none⟩) hq _).setCell (p := ⟨q, 4, none⟩) hq _).setCell (p := ⟨q, 5, none⟩) hq _
def threeE (m : Int) (x : Option Addr) (n c : Nat) (R : Wk × Bs × Bool) : Ending := .returned (.tuple #[rV m x n c R.1, .string (tx R.2.1), .bool R.2.2])
set_option maxRecDepth 100000 in
set_option maxHeartbeats 2000000 in
theorem rOlder_core (m : Int) (x : Option Addr) (c : Nat) (L : List Bs) (hL : L.length ≤ 1000) (k : Wk) (d bg : Bs) (w : World) (h : SeesL w x c L) (g : Wk) (hg : g = k.on' d bg) (s : Nat) (hs : g.at_ = (s : Int) - 1) (hs2 : s ≤ 1000) :
    Calls Try.prog 34 #[rV m x L.length c k, .string (tx d), .string (tx bg)] w fun e w' => e = threeE m x L.length c (olderR L g k (nxU L g.d g.bg s)) ∧ Below w.heap.size w w' := by
  have HH := Lib.hid h
  have HG := Lib.hid hg
  obtain ⟨on, kd, kb, ka⟩ := k
  obtain ⟨go, gd, gb, ga⟩ := g
  have hgg : go = true ∧ ((on = true ∧ gd = kd ∧ gb = kb ∧ ga = ka) ∨ (on = false ∧ gd = d ∧ gb = bg ∧ ga = -1)) := by
    have := HG.out
    cases on <;> simp [Wk.on'] at this <;> simp [this]
  clear HG hg h
  simp only at hs
  unfold threeE
  have HE : Hid (∀ k x n, rV m x n c k = .agg (hisCells m x n c k)) := Lib.hid (fun _ _ _ => rfl)
  have hkv : rV m x L.length c ⟨on, kd, kb, ka⟩ = .agg #[.int .i64 m, .slice x L.length c, .bool on, .string (tx kd), .string (tx kb), .int .i64 ka] := rfl
  rw [hkv]
  clear hkv
  obtain ⟨n, hn⟩ : ∃ n, n = L.length := ⟨_, rfl⟩
  have HN := Lib.hid hn
  rw [← hn] at hL ⊢
  clear hn
  rcases hgg with ⟨rfl, ⟨rfl, rfl, rfl, rfl⟩ | ⟨rfl, rfl, rfl, hga⟩⟩
  · obtain rfl : ga = (s : Int) - 1 := hs
    obtain ⟨D, hD⟩ : ∃ D, D = tx gd := ⟨_, rfl⟩
    obtain ⟨G, hG⟩ : ∃ D, D = tx gb := ⟨_, rfl⟩
    have HDG := Lib.hid (And.intro hD hG)
    rw [← hD, ← hG]
    clear hD hG
    have HS0 := Lib.hid (RB.start w #[.int .i64 m, .slice x n c, .bool true, .string D, .string G, .int .i64 ((s : Int) - 1)] #[.int .i64 0, .slice none 0 0, .bool false, .string ⟨#[]⟩, .string ⟨#[]⟩, .int .i64 0] #[.int .i64 m, .slice x n c, .bool true, .string D, .string G, .int .i64 ((s : Int) - 1)])
    go_enter Try.func34, Try.ntmps34
    go_wp2
    obtain ⟨W0, hW0⟩ : ∃ W0, W0 = ((w.alloc (.cells #[.int .i64 m, .slice x n c, .bool true, .string D, .string G, .int .i64 ((s : Int) - 1)] 41)).alloc (.cells #[.int .i64 0, .slice none 0 0, .bool false, .string ⟨#[]⟩, .string ⟨#[]⟩, .int .i64 0] 41)).alloc (.cells #[.int .i64 m, .slice x n c, .bool true, .string D, .string G, .int .i64 ((s : Int) - 1)] 41) := ⟨_, rfl⟩
    rw [← hW0] at HS0 ⊢
    clear hW0
    go_loopw [10] (fun v wr => ∃ j : Nat, v = .int .i64 (j : Int) ∧ s ≤ j ∧ (j ≤ s ∨ j ≤ n) ∧ Hid (∀ q, s ≤ q → q < j → toldAt L gd gb q = false) ∧ Hid (∃ mm, wr = W0.drewN mm)) (fun v _ => n - (intOf v).toNat)
    case atStart => exact ⟨s, by simp, Nat.le_refl _, .inl (Nat.le_refl _), Lib.hid (fun q h1 h2 => by omega), Lib.hid ⟨0, rfl⟩⟩
    case round =>
      obtain ⟨j, rfl, hsj, hjn, HQ, HW⟩ := hrel
      have HS : Hid (RB w #[.int .i64 m, .slice x n c, .bool true, .string D, .string G, .int .i64 ((s : Int) - 1)] #[.int .i64 0, .slice none 0 0, .bool false, .string ⟨#[]⟩, .string ⟨#[]⟩, .int .i64 0] #[.int .i64 m, .slice x n c, .bool true, .string D, .string G, .int .i64 ((s : Int) - 1)] wr) := Lib.hid (by obtain ⟨mm, rfl⟩ := HW.out; exact HS0.out.drewN mm)
      obtain ⟨g0, g1, g2, g3, g4, g5, gz⟩ := cells6 HS.out.g
      obtain ⟨a0, a1, a2, a3, a4, a5, -⟩ := cells6 HS.out.a
      obtain ⟨z0, z1, z2, z3, z4, z5, zz⟩ := cells6 HS.out.z
      have gf := gz 5
      have i1 : (0 : Int) ≤ (j : Int) := by omega
      by_cases hlt : j < n
      · have i2 : (j : Int) < (n : Int) := by omega
        obtain ⟨gr, rfl, hgr, hget⟩ := HH.out.2.2 (by have := HN.out; omega)
        have ce := (HS.out.bel.cell (p := ⟨gr, j, none⟩) hgr).trans (hget j (by have := HN.out; omega))
        have HOF := Lib.hid (fun W => wOfR (L.getD j []) gd gb W)
        rw [← HDG.out.1, ← HDG.out.2] at HOF
        obtain ⟨V, hV⟩ : ∃ V, V = toldAt L gd gb j := ⟨_, rfl⟩
        have HV := Lib.hid hV
        have hV2 : V = toldB (L.getD j []) gd gb := hV
        rw [← hV2] at HOF
        obtain ⟨X, hX⟩ : ∃ X, X = tx (L.getD j []) := ⟨_, rfl⟩
        have HX := Lib.hid hX
        rw [← hX] at HOF ce
        clear hV hV2 hX hget
        cases V
        · clear gf zz
          go_wp2
          go_quiet ((go_at_call 12; exact quiet_sym (HOF.out _)))
          go_wp2
          go_roundw
          case rel =>
            obtain ⟨mm, rfl⟩ := HW.out
            exact ⟨j + 1, by go_num, by omega, .inr (by omega), Lib.hid (fun q h1 h2 => by
              by_cases e : q = j
              · rw [e]; exact HV.out.symm
              · exact HQ.out q h1 (by omega)), Lib.hid ⟨mm + nq, World.drewN_drewN _ _ _⟩⟩
          case measure => simp [intOf]; omega
        · have zf0 := zz 0
          have zf1 := zz 1
          have zf2 := zz 2
          have zf3 := zz 3
          have zf4 := zz 4
          have zf5 := zz 5
          have hne : ¬ gr = w.heap.size + 2 := by omega
          have hne2 : ¬ gr = w.heap.size + 1 := by omega
          clear zz gz
          go_wp2
          go_quiet ((go_at_call 12; exact quiet_sym (HOF.out _)))
          go_wp2
          have HNX := Lib.hid (nxU_some (L := L) (d := gd) (bg := gb) (by have := HN.out; omega) HV.out.symm hsj HQ.out)
          go_region
          go_wp2
          rw [HNX.out]
          have HF := set6_drew (W := (wr.drewN nq).setCell ⟨w.heap.size + 1 + 1, 5, none⟩ (.int .i64 (j : Int))) ((set_other (by omega)).trans HS.out.z) (.int .i64 m) (.slice (some ⟨gr, 0, none⟩) n c) (.bool true) (.string D) (.string G) (.int .i64 (j : Int))
          refine bodyPost_ret (results_cell_tmp2 rfl _ _ (w.heap.size + 1) 41 _ (0, 0) _ rfl HF Try.underlying41 rfl (by kernel_rfl)) rfl ?_
          refine ⟨?_, (set6_below ((below_drewN HS.out.bel nq).setCell (p := ⟨w.heap.size + 1 + 1, 5, none⟩) (show w.heap.size ≤ w.heap.size + 1 + 1 by omega) _) (show w.heap.size ≤ w.heap.size + 1 by omega) _ _ _ _ _ _).drew⟩
          rw [HE.out, HX.out, HDG.out.1, HDG.out.2]
          rfl
      · have i2 : ¬ (j : Int) < (n : Int) := by omega
        have HNX := Lib.hid (nxU_none (L := L) (d := gd) (bg := gb) (s := s) (fun q h1 h2 => HQ.out q h1 (by have := HN.out; omega)))
        have zf0 := zz 0
        have zf1 := zz 1
        have zf2 := zz 2
        have zf3 := zz 3
        have zf4 := zz 4
        have zf5 := zz 5
        clear zz gz gf
        go_wp2
        rw [HNX.out]
        have HF := set6_heap (W := wr) HS.out.z (.int .i64 m) (.slice x n c) (.bool true) (.string D) (.string G) (.int .i64 ((s : Int) - 1))
        refine bodyPost_ret (results_cell_tmp2 rfl _ _ (w.heap.size + 1) 41 _ (0, 0) _ rfl HF Try.underlying41 rfl (by kernel_rfl)) rfl ?_
        refine ⟨?_, set6_below HS.out.bel (show w.heap.size ≤ w.heap.size + 1 by omega) _ _ _ _ _ _⟩
        rw [HE.out, HDG.out.1, HDG.out.2]
        rfl
  · obtain rfl : s = 0 := by omega
    subst hga
    clear hs hs2
    obtain ⟨KD, hKD⟩ : ∃ D, D = tx kd := ⟨_, rfl⟩
    obtain ⟨KB, hKB⟩ : ∃ D, D = tx kb := ⟨_, rfl⟩
    have HKK := Lib.hid (And.intro hKD hKB)
    rw [← hKD, ← hKB]
    clear hKD hKB
    obtain ⟨D, hD⟩ : ∃ D, D = tx gd := ⟨_, rfl⟩
    obtain ⟨G, hG⟩ : ∃ D, D = tx gb := ⟨_, rfl⟩
    have HDG := Lib.hid (And.intro hD hG)
    rw [← hD, ← hG]
    clear hD hG
    have HS0 := Lib.hid (RB.start w #[.int .i64 m, .slice x n c, .bool false, .string KD, .string KB, .int .i64 ka] #[.int .i64 0, .slice none 0 0, .bool false, .string ⟨#[]⟩, .string ⟨#[]⟩, .int .i64 0] #[.int .i64 m, .slice x n c, .bool true, .string D, .string G, .int .i64 (-1)])
    go_enter Try.func34, Try.ntmps34
    go_wp2
    obtain ⟨W0, hW0⟩ : ∃ W0, W0 = ((w.alloc (.cells #[.int .i64 m, .slice x n c, .bool false, .string KD, .string KB, .int .i64 ka] 41)).alloc (.cells #[.int .i64 0, .slice none 0 0, .bool false, .string ⟨#[]⟩, .string ⟨#[]⟩, .int .i64 0] 41)).alloc (.cells #[.int .i64 m, .slice x n c, .bool true, .string D, .string G, .int .i64 (-1)] 41) := ⟨_, rfl⟩
    rw [← hW0] at HS0 ⊢
    clear hW0
    go_loopw [10] (fun v wr => ∃ j : Nat, v = .int .i64 (j : Int) ∧ 0 ≤ j ∧ (j ≤ 0 ∨ j ≤ n) ∧ Hid (∀ q, 0 ≤ q → q < j → toldAt L gd gb q = false) ∧ Hid (∃ mm, wr = W0.drewN mm)) (fun v _ => n - (intOf v).toNat)
    case atStart => exact ⟨0, by simp, Nat.le_refl _, .inl (Nat.le_refl _), Lib.hid (fun q h1 h2 => by omega), Lib.hid ⟨0, rfl⟩⟩
    case round =>
      obtain ⟨j, rfl, hsj, hjn, HQ, HW⟩ := hrel
      have HS : Hid (RB w #[.int .i64 m, .slice x n c, .bool false, .string KD, .string KB, .int .i64 ka] #[.int .i64 0, .slice none 0 0, .bool false, .string ⟨#[]⟩, .string ⟨#[]⟩, .int .i64 0] #[.int .i64 m, .slice x n c, .bool true, .string D, .string G, .int .i64 (-1)] wr) := Lib.hid (by obtain ⟨mm, rfl⟩ := HW.out; exact HS0.out.drewN mm)
      obtain ⟨g0, g1, g2, g3, g4, g5, gz⟩ := cells6 HS.out.g
      obtain ⟨a0, a1, a2, a3, a4, a5, -⟩ := cells6 HS.out.a
      obtain ⟨z0, z1, z2, z3, z4, z5, zz⟩ := cells6 HS.out.z
      have gf := gz 5
      have i1 : (0 : Int) ≤ (j : Int) := by omega
      by_cases hlt : j < n
      · have i2 : (j : Int) < (n : Int) := by omega
        obtain ⟨gr, rfl, hgr, hget⟩ := HH.out.2.2 (by have := HN.out; omega)
        have ce := (HS.out.bel.cell (p := ⟨gr, j, none⟩) hgr).trans (hget j (by have := HN.out; omega))
        have HOF := Lib.hid (fun W => wOfR (L.getD j []) gd gb W)
        rw [← HDG.out.1, ← HDG.out.2] at HOF
        obtain ⟨V, hV⟩ : ∃ V, V = toldAt L gd gb j := ⟨_, rfl⟩
        have HV := Lib.hid hV
        have hV2 : V = toldB (L.getD j []) gd gb := hV
        rw [← hV2] at HOF
        obtain ⟨X, hX⟩ : ∃ X, X = tx (L.getD j []) := ⟨_, rfl⟩
        have HX := Lib.hid hX
        rw [← hX] at HOF ce
        clear hV hV2 hX hget
        cases V
        · clear gf zz
          go_wp2
          go_quiet ((go_at_call 12; exact quiet_sym (HOF.out _)))
          go_wp2
          go_roundw
          case rel =>
            obtain ⟨mm, rfl⟩ := HW.out
            exact ⟨j + 1, by go_num, by omega, .inr (by omega), Lib.hid (fun q h1 h2 => by
              by_cases e : q = j
              · rw [e]; exact HV.out.symm
              · exact HQ.out q h1 (by omega)), Lib.hid ⟨mm + nq, World.drewN_drewN _ _ _⟩⟩
          case measure => simp [intOf]; omega
        · have zf0 := zz 0
          have zf1 := zz 1
          have zf2 := zz 2
          have zf3 := zz 3
          have zf4 := zz 4
          have zf5 := zz 5
          have hne : ¬ gr = w.heap.size + 2 := by omega
          have hne2 : ¬ gr = w.heap.size + 1 := by omega
          clear zz gz
          go_wp2
          go_quiet ((go_at_call 12; exact quiet_sym (HOF.out _)))
          go_wp2
          have HNX := Lib.hid (nxU_some (L := L) (d := gd) (bg := gb) (by have := HN.out; omega) HV.out.symm hsj HQ.out)
          go_region
          go_wp2
          rw [HNX.out]
          have HF := set6_drew (W := (wr.drewN nq).setCell ⟨w.heap.size + 1 + 1, 5, none⟩ (.int .i64 (j : Int))) ((set_other (by omega)).trans HS.out.z) (.int .i64 m) (.slice (some ⟨gr, 0, none⟩) n c) (.bool true) (.string D) (.string G) (.int .i64 (j : Int))
          refine bodyPost_ret (results_cell_tmp2 rfl _ _ (w.heap.size + 1) 41 _ (0, 0) _ rfl HF Try.underlying41 rfl (by kernel_rfl)) rfl ?_
          refine ⟨?_, (set6_below ((below_drewN HS.out.bel nq).setCell (p := ⟨w.heap.size + 1 + 1, 5, none⟩) (show w.heap.size ≤ w.heap.size + 1 + 1 by omega) _) (show w.heap.size ≤ w.heap.size + 1 by omega) _ _ _ _ _ _).drew⟩
          rw [HE.out, HX.out, HDG.out.1, HDG.out.2]
          rfl
      · have i2 : ¬ (j : Int) < (n : Int) := by omega
        have HNX := Lib.hid (nxU_none (L := L) (d := gd) (bg := gb) (s := 0) (fun q h1 h2 => HQ.out q h1 (by have := HN.out; omega)))
        have zf0 := zz 0
        have zf1 := zz 1
        have zf2 := zz 2
        have zf3 := zz 3
        have zf4 := zz 4
        have zf5 := zz 5
        clear zz gz gf
        go_wp2
        rw [HNX.out]
        have HF := set6_heap (W := wr) HS.out.z (.int .i64 m) (.slice x n c) (.bool false) (.string KD) (.string KB) (.int .i64 ka)
        refine bodyPost_ret (results_cell_tmp2 rfl _ _ (w.heap.size + 1) 41 _ (0, 0) _ rfl HF Try.underlying41 rfl (by kernel_rfl)) rfl ?_
        refine ⟨?_, set6_below HS.out.bel (show w.heap.size ≤ w.heap.size + 1 by omega) _ _ _ _ _ _⟩
        rw [HE.out, HKK.out.1, HKK.out.2]
        rfl
end Go.Proofs.Ytbaljpamhmbcjaa
