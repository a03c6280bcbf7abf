/- Walk: Depth. -/
import Derived.Test.YtmhfnpabgkkjaaaQJ
namespace Go.Proofs.Ytmhfnpabgkkjaaa
open Go.RowKit Go.Shelf
attribute [local go_sem] run_store_float
mutual
def szT : Tree → Nat
  | .mk _ _ _ l => 1 + szL l
def szL : List Tree → Nat
  | [] => 0
  | t :: r => szT t + szL r
end
theorem szL_get (l : List Tree) (i : Nat) (h : i < l.length) : szT l[i] ≤ szL l := by
  induction l generalizing i with
  | nil => cases h
  | cons t r ih =>
    cases i with
    | zero => simp only [List.getElem_cons_zero, szL]; omega
    | succ i => simp only [List.getElem_cons_succ, szL]; have := ih i (by simpa using h); omega
theorem szT_pos (t : Tree) : 1 ≤ szT t := by cases t; simp only [szT]; omega
theorem len_szL (l : List Tree) : l.length ≤ szL l := by
  induction l with
  | nil => simp
  | cons t r ih => have := szT_pos t; simp only [List.length_cons, szL]; omega
mutual
theorem dep_sz : ∀ t : Tree, depT t ≤ szT t
  | .mk _ _ _ l => by have := depL_sz l; simp only [depT, szT]; omega
theorem depL_sz : ∀ l : List Tree, depL l ≤ szL l
  | [] => by simp [depL]
  | t :: r => by have := dep_sz t; have := depL_sz r; simp only [depL, szL]; omega
end
theorem depL_snoc (l : List Tree) (t : Tree) : depL (l ++ [t]) = max (depL l) (depT t) := by
  induction l with
  | nil => simp [depL]
  | cons a r ih => simp only [List.cons_append, depL, ih]; omega
theorem depL_get (l : List Tree) (i : Nat) (h : i < l.length) : depT l[i] ≤ depL l := by
  induction l generalizing i with
  | nil => cases h
  | cons t r ih =>
    cases i with
    | zero => simp only [List.getElem_cons_zero, depL]; omega
    | succ i => simp only [List.getElem_cons_succ, depL]; have := ih i (by simpa using h); omega
theorem depL_take (l : List Tree) (j : Nat) : depL (l.take j) ≤ depL l := by
  induction l generalizing j with
  | nil => simp
  | cons t r ih =>
    cases j with
    | zero => simp [depL]
    | succ j => simp only [List.take_succ_cons, depL]; have := ih j; omega
theorem NodesV.get {A : Nat → Prop} {w : World} {a : Addr} : ∀ (l : List Tree) (i : Nat), NodesV A w a i l → ∀ j, (h : j < l.length) → ∃ v0 v1 v2 v3, w.cell? (a.add ((i + j) * 4)) = some v0 ∧ w.cell? (a.add ((i + j) * 4 + 1)) = some v1 ∧ w.cell? (a.add ((i + j) * 4 + 2)) = some v2 ∧ w.cell? (a.add ((i + j) * 4 + 3)) = some v3 ∧ NodeV A w (.agg #[v0, v1, v2, v3]) l[j]
  | [], _, _, j, h => by cases h
  | t :: r, i, hn, j, h => by
    cases j with
    | zero => exact hn.1
    | succ j =>
      have := NodesV.get r (i + 1) hn.2 j (by simpa using h)
      rw [show i + (j + 1) = i + 1 + j by omega]
      exact this
theorem add_lit (a : Addr) (i k : Nat) (hk : k ≠ 0) : a.add (i + k) = ⟨(a.add i).block, (a.add i).off + k, none⟩ := by
  unfold Addr.add
  by_cases h : i = 0
  · subst h; simp [hk]
  · simp [h, hk]; omega
set_option maxRecDepth 100000 in
set_option maxHeartbeats 4000000 in
theorem wdepth : ∀ (n : Nat) (t : Tree), szT t ≤ n → ∀ (A : Nat → Prop) (v : Value) (w : World), szT t ≤ 1000000 → NodeV A w v t →
    Calls Try.prog 13 #[v] w fun e w' => e = .returned (.int .i64 (depT t)) ∧ Below w.heap.size w w' := by
  intro n
  induction n with
  | zero => intro t h; cases t; simp only [szT] at h; omega
  | succ n ih =>
    intro t hn A v w hd hv
    obtain ⟨op, fn, s, l⟩ := t
    have HV := Lib.hid hv
    obtain ⟨x, cap, rfl, hcap, hx, hch⟩ := hv
    have HIH := Lib.hid ih
    have HN := Lib.hid (show szL l ≤ n by simp only [szT] at hn; omega)
    have HD := Lib.hid (show 1 + szL l ≤ 1000000 by simpa only [szT] using hd)
    have hdd := Lib.hid (show depL l ≤ 1000000 by have := depL_sz l; have := HD.out; omega)
    have HC := Lib.hid hch
    have hll : l.length ≤ 1000000 := by have := len_szL l; have := HD.out; omega
    have HX := Lib.hid hx
    have hdt : depT (.mk op fn s l) = depL l + 1 := by simp only [depT]
    rw [hdt]
    obtain ⟨N, hN⟩ : ∃ N, N = l.length := ⟨_, rfl⟩
    rw [← hN] at hll hcap HV ⊢
    have HNL := Lib.hid hN
    clear hN hn hd hch hx ih hdt
    go_enter Try.func13, Try.ntmps13
    go_wp2_with fail
    go_loopg [3, 9] N (fun gh m i wr => ∃ j : Nat, j + gh = N ∧ i = .int .i64 j ∧ m = .int .i64 (depL (l.take j)) ∧ Hid (Below w.heap.size w wr))
    case atStart => exact ⟨0, by omega, rfl, rfl, Lib.hid ((Below.refl _ _).alloc (Nat.le_refl _) _)⟩
    case round =>
      obtain ⟨j, hj, rfl, rfl, HB⟩ := hrel
      by_cases q : j < N
      · have hjl : j < l.length := by have := HNL.out; omega
        obtain ⟨a, rfl⟩ : ∃ a, x = some a := by
          cases x with
          | none => have := HX.out rfl; rw [this] at hjl; cases hjl
          | some a => exact ⟨a, rfl⟩
        obtain ⟨v0, v1, v2, v3, e0, e1, e2, e3, hnode⟩ := NodesV.get l 0 (HC.out a rfl).2 j hjl
        rw [Nat.zero_add] at e0 e1 e2 e3
        have hab : a.block < w.heap.size := ((HC.out a rfl).1 (nil_not hjl)).2
        have hs : ∀ k, wr.heap[(a.add k).block]? = w.heap[(a.add k).block]? := fun k => by rw [add_block]; exact HB.out.block _ hab
        have d0 := cell_same (hs _) e0
        have d1 := cell_same (hs _) e1
        have d2 := cell_same (hs _) e2
        have d3 := cell_same (hs _) e3
        rw [add_lit _ _ _ (by decide)] at d1 d2 d3
        clear e0 e1 e2 e3 hs
        obtain ⟨o1, n1, s1, x1, l1, c1, hag⟩ := hnode.agg
        cases hag
        have HNODE := Lib.hid hnode
        clear hnode
        have HSN : Hid (depL (l.take (j + 1)) = max (depL (l.take j)) (depT l[j])) := Lib.hid (by rw [List.take_succ_eq_append_getElem hjl, depL_snoc])
        have HBD := Lib.hid (show depL (l.take j) ≤ 1000000 ∧ depL (l.take (j + 1)) ≤ 1000000 by have := depL_take l j; have := depL_take l (j + 1); have := hdd.out; omega)
        have HCH : Hid (∀ W, Below w.heap.size w W → Calls Try.prog 13 #[.agg #[.string o1, .float .f64 n1, .string s1, .slice x1 l1 c1]] W fun e w' => e = .returned (.int .i64 (depT l[j])) ∧ Below W.heap.size W w') := Lib.hid (fun W hW => by
          have h1 := szL_get l j hjl
          have h2 := HN.out
          have h3 := HD.out
          exact HIH.out l[j] (by omega) A _ W (by omega) (HNODE.out.below hW))
        obtain ⟨P1, hP1⟩ : ∃ P1, P1 = depL (l.take j) := ⟨_, rfl⟩
        obtain ⟨P2, hP2⟩ : ∃ P2, P2 = depL (l.take (j + 1)) := ⟨_, rfl⟩
        obtain ⟨P3, hP3⟩ : ∃ P3, P3 = depT l[j] := ⟨_, rfl⟩
        rw [← hP1, ← hP2] at HBD
        rw [← hP1, ← hP2, ← hP3] at HSN
        rw [← hP3] at HCH
        rw [← hP1]
        have HP2 := Lib.hid hP2
        have hmx : max (P1 : Int) (P3 : Int) = (P2 : Int) := by have := HSN.out; omega
        clear hP1 hP2 hP3
        go_wp2_with (first | (go_at_call 13; fail))
        refine (HCH.out _ (HB.out.alloc (HB.out.size) _)).mono ?_
        rintro e w2 ⟨rfl, hb2⟩
        have HB2 := Lib.hid (((HB.out.alloc (HB.out.size) (.cells #[.string o1, .float .f64 n1, .string s1, .slice x1 l1 c1] 38))).trans (below_le hb2 (by have := HB.out.size; simp; omega)))
        clear hb2 d0 d1 d2 d3
        go_wp2
        go_roundg (gk - 1)
        case measure => omega
        case rel => exact ⟨j + 1, by omega, by go_num, by rw [← HP2.out], HB2⟩
      · have e : j = l.length := by have := HNL.out; omega
        rw [show l.take j = l by rw [e, List.take_length]]
        have hd2 := hdd.out
        obtain ⟨D, hD⟩ : ∃ D, D = depL l := ⟨_, rfl⟩
        have HDV := Lib.hid hD
        rw [← hD] at hd2 ⊢
        clear e hD
        go_wp2
        go_ret
        exact ⟨by rw [← HDV.out]; rfl, HB.out⟩
end Go.Proofs.Ytmhfnpabgkkjaaa
