/- Own texts, merged: TC, TD, TE, TF. -/
import Derived.Test.YtmhfnpabgkkjaaaGreatMP51
/- Walk: the law's size. -/
namespace Go.Proofs.YtmhfnpabgkkjaaaGreat
open Go.RowKit Go.Shelf
attribute [local go_sem] run_store_float
mutual
/-- How large a tree is, up to where it is not looked at. -/
def szS : Tree → Nat
  | .mk _ _ s l => szSL (1 + s.length / 8) l
def szSL : Nat → List Tree → Nat
  | k, [] => k
  | k, t :: r => if k ≤ 400 then szSL (k + szS t) r else k
end
mutual
def bkT : Tree → Nat
  | .mk _ _ s l => 1 + s.length + bkL l
def bkL : List Tree → Nat
  | [] => 0
  | t :: r => bkT t + bkL r
end
mutual
theorem szS_le : ∀ t : Tree, szS t ≤ bkT t
  | .mk _ _ s l => by
    have := szSL_le l (1 + s.length / 8)
    have h2 : s.length / 8 ≤ s.length := Nat.div_le_self _ _
    simp only [szS, bkT]
    omega
theorem szSL_le : ∀ (l : List Tree) (k : Nat), szSL k l ≤ k + bkL l
  | [], k => by simp [szSL, bkL]
  | t :: r, k => by
    have h1 := szS_le t
    have h2 := szSL_le r (k + szS t)
    simp only [szSL, bkL]
    split <;> omega
end
theorem szSL_mono : ∀ (l : List Tree) (k : Nat), k ≤ szSL k l
  | [], k => by simp [szSL]
  | t :: r, k => by
    have h2 := szSL_mono r (k + szS t)
    simp only [szSL]
    split <;> omega
mutual
theorem small_T : ∀ t : Tree, szS t ≤ 400 → szT t ≤ szS t ∧ txT 4000 t
  | .mk _ _ s l, h => by
    simp only [szS] at h ⊢
    have h1 := szSL_mono l (1 + s.length / 8)
    have h2 := small_L l (1 + s.length / 8) h
    simp only [szT]
    exact ⟨by omega, ⟨by omega, h2.2⟩⟩
theorem small_L : ∀ (l : List Tree) (k : Nat), szSL k l ≤ 400 → k + szL l ≤ szSL k l ∧ txL 4000 l
  | [], k, _ => ⟨by simp [szSL, szL], trivial⟩
  | t :: r, k, h => by
    simp only [szSL] at h ⊢
    by_cases q : k ≤ 400
    · rw [if_pos q] at h ⊢
      have h1 := szSL_mono r (k + szS t)
      have h2 := small_T t (by omega)
      have h3 := small_L r (k + szS t) h
      simp only [szL]
      exact ⟨by omega, h2.2, h3.2⟩
    · rw [if_neg q] at h
      omega
end
theorem bkL_get (l : List Tree) (i : Nat) (h : i < l.length) : bkT l[i] ≤ bkL l := by
  induction l generalizing i with
  | nil => cases h
  | cons t r ih =>
    cases i with
    | zero => simp only [List.getElem_cons_zero, bkL]; omega
    | succ i => simp only [List.getElem_cons_succ, bkL]; have := ih i (by simpa using h); omega
theorem len_bkL (l : List Tree) : l.length ≤ bkL l := by
  induction l with
  | nil => simp
  | cons t r ih => obtain ⟨op, n, s, c⟩ := t; simp only [List.length_cons, bkL, bkT]; omega
theorem szSL_drop {l : List Tree} {j k : Nat} (h : j < l.length) : szSL k (l.drop j) = if k ≤ 400 then szSL (k + szS l[j]) (l.drop (j + 1)) else k := by
  rw [List.drop_eq_getElem_cons h]
  rfl
theorem bkL_drop {l : List Tree} {j : Nat} (h : j < l.length) : bkL (l.drop j) = bkT l[j] + bkL (l.drop (j + 1)) := by
  rw [List.drop_eq_getElem_cons h]
  rfl
set_option maxRecDepth 100000 in
set_option maxHeartbeats 4000000 in
theorem wsize : ∀ (n : Nat) (t : Tree), szT t ≤ n → ∀ (A : Nat → Prop) (v : Value) (w : World), bkT t ≤ 2000000 → NodeV A w v t →
    Calls Tryz.prog 12 #[v] w fun e w' => e = .returned (.int .i64 (szS t)) ∧ Below w.heap.size w w' := by
  intro n
  induction n with
  | zero => intro t h; cases t; simp only [szT] at h; omega
  | succ n ih =>
    intro t hn A v w hd hv
    obtain ⟨op, fn, s, l⟩ := t
    have HV := Lib.hid hv
    obtain ⟨x, cap, rfl, hcap, hx, hch⟩ := hv
    have HIH := Lib.hid ih
    have HN := Lib.hid (show szL l ≤ n by simp only [szT] at hn; omega)
    have HD := Lib.hid (show 1 + s.length + bkL l ≤ 2000000 by simpa only [bkT] using hd)
    have HC := Lib.hid hch
    have hll : l.length ≤ 2000000 := by have := len_bkL l; have := HD.out; omega
    have HX := Lib.hid hx
    have HS := Lib.hid (tx_size' s)
    obtain ⟨R, hR⟩ : ∃ R, R = szS (.mk op fn s l) := ⟨_, rfl⟩
    rw [← hR]
    have HR : Hid (R = szSL (1 + s.length / 8) (l.drop 0)) := Lib.hid (by rw [hR]; simp only [szS, List.drop_zero])
    obtain ⟨N, hN⟩ : ∃ N, N = l.length := ⟨_, rfl⟩
    rw [← hN] at hll hcap HV ⊢
    have HNL := Lib.hid hN
    have hsz : ((tx s).size : Int) / 8 = ((s.length / 8 : Nat) : Int) := by rw [HS.out]; omega
    have hsz2 : ((tx s).size : Int).tdiv 8 = ((s.length / 8 : Nat) : Int) := by rw [HS.out]; rw [Int.tdiv_eq_ediv_of_nonneg (by omega)]; omega
    obtain ⟨Q, hQ⟩ : ∃ Q, Q = s.length / 8 := ⟨_, rfl⟩
    rw [← hQ] at hsz hsz2 HR
    have hqq : Q ≤ 2000000 := by have := HD.out; have h2 : s.length / 8 ≤ s.length := Nat.div_le_self _ _; omega
    have HB0 : Hid (1 + Q + bkL (l.drop 0) ≤ 2000000) := Lib.hid (by have := HD.out; have h2 : s.length / 8 ≤ s.length := Nat.div_le_self _ _; rw [List.drop_zero]; omega)
    clear hN hn hd hch hx ih hR hQ
    go_enter Tryz.func12, Tryz.ntmps12
    go_wp2_with fail
    go_loopg [3, 4] N (fun gh k i wr => ∃ j K : Nat, j + gh = N ∧ i = .int .i64 j ∧ k = .int .i64 K ∧ Hid (R = szSL K (l.drop j)) ∧ Hid (K + bkL (l.drop j) ≤ 2000000) ∧ Hid (Below w.heap.size w wr) ∧ Hid (NB wr w.heap.size (.agg #[.string (tx op), .float .f64 fn, .string (tx s), .slice x N cap])))
    case atStart => exact ⟨0, 1 + Q, by omega, rfl, by go_num, HR, HB0, Lib.hid ((Below.refl _ _).alloc (Nat.le_refl _) _), Lib.hid ⟨_, _, _, _, rfl, heap_alloc_new _ _⟩⟩
    case round =>
      obtain ⟨j, K, hj, rfl, rfl, HRR, HBK, HB, HNB⟩ := hrel
      obtain ⟨p0, p1, p2, p3, _⟩ := HNB.out.cells
      have hbl := HNB.out.lt
      have hkk : K ≤ 2000000 := by have := HBK.out; omega
      clear HR HB0
      by_cases q : j < N
      · have hjl : j < l.length := by have := HNL.out; omega
        by_cases q4 : K ≤ 400
        · obtain ⟨a, rfl⟩ : ∃ a, x = some a := by
            cases x with
            | none => have := HX.out rfl; rw [this] at hjl; cases hjl
            | some a => exact ⟨a, rfl⟩
          obtain ⟨v0, v1, v2, v3, e0, e1, e2, e3, hnode⟩ := NodesV.get l 0 (HC.out a rfl).2 j hjl
          rw [Nat.zero_add] at e0 e1 e2 e3
          have hab : a.block < w.heap.size := ((HC.out a rfl).1 (nil_not hjl)).2
          have hs : ∀ k, wr.heap[(a.add k).block]? = w.heap[(a.add k).block]? := fun k => by rw [add_block]; exact HB.out.block _ hab
          have d0 := cell_same (hs _) e0
          have d1 := cell_same (hs _) e1
          have d2 := cell_same (hs _) e2
          have d3 := cell_same (hs _) e3
          rw [add_lit _ _ _ (by decide)] at d1 d2 d3
          clear e0 e1 e2 e3 hs
          obtain ⟨o1, n1, s1, x1, l1, c1, hag⟩ := hnode.agg
          cases hag
          have HNODE := Lib.hid hnode
          clear hnode
          have HBJ := Lib.hid (bkL_drop hjl)
          have HSJ := Lib.hid (szS_le l[j])
          have HRJ : Hid (R = szSL (K + szS l[j]) (l.drop (j + 1))) := Lib.hid (by rw [HRR.out, szSL_drop hjl, if_pos q4])
          have HCH : Hid (∀ W, Below w.heap.size w W → Calls Tryz.prog 12 #[.agg #[.string o1, .float .f64 n1, .string s1, .slice x1 l1 c1]] W fun e w' => e = .returned (.int .i64 (szS l[j])) ∧ Below W.heap.size W w') := Lib.hid (fun W hW => by
            have h1 := szL_get l j hjl
            have h2 := HN.out
            have h3 := HBK.out
            have h4 := HBJ.out
            exact HIH.out l[j] (by omega) A _ W (by omega) (HNODE.out.below hW))
          have hbj : K + szS l[j] ≤ 2000000 := by have := HBK.out; have := HBJ.out; have := HSJ.out; omega
          have HBK2 : Hid ((K + szS l[j]) + bkL (l.drop (j + 1)) ≤ 2000000) := Lib.hid (by have := HBK.out; have := HBJ.out; have := HSJ.out; omega)
          generalize szS l[j] = Z at HCH hbj HBK2 HRJ
          go_wp2_with (first | (go_at_call 12; fail))
          refine (HCH.out _ HB.out).mono ?_
          rintro e w2 ⟨rfl, hb2⟩
          have HB2 := Lib.hid (HB.out.trans (below_le hb2 HB.out.size))
          have HNB2 := Lib.hid (HNB.out.below hb2)
          clear hb2 d0 d1 d2 d3
          go_wp2
          go_roundg (gk - 1)
          case measure => omega
          case rel => exact ⟨j + 1, K + Z, by omega, by go_num, by go_num, HRJ, HBK2, HB2, HNB2⟩
        · have HRE : Hid (R = K) := Lib.hid (by rw [HRR.out, szSL_drop hjl, if_neg q4])
          have q5 : ¬ (K : Int) ≤ 400 := by omega
          go_wp2
          go_ret
          exact ⟨by rw [HRE.out]; rfl, HB.out⟩
      · have HRE : Hid (R = K) := Lib.hid (by rw [HRR.out, List.drop_eq_nil_of_le (by have := HNL.out; omega)]; rfl)
        go_wp2
        go_ret
        exact ⟨by rw [HRE.out]; rfl, HB.out⟩
end Go.Proofs.YtmhfnpabgkkjaaaGreat
/- Walk: the law's few. -/
namespace Go.Proofs.YtmhfnpabgkkjaaaGreat
open Go.RowKit Go.Shelf
attribute [local go_sem] run_store_float
def bndC (b : Bnd) : List Value := [.string (tx b.nm), .int .i64 b.v.t, .float .f64 b.v.n, .string (tx b.v.s), .bool b.v.b]
def bndsV (L : List Bnd) : List Value := L.flatMap bndC
theorem bndsV_app (A B : List Bnd) : bndsV (A ++ B) = bndsV A ++ bndsV B := by simp [bndsV]
theorem bndsV_get : ∀ (L : List Bnd) (i : Nat) (b : Bnd), L[i]? = some b → (bndsV L)[i * 5]? = some (.string (tx b.nm)) ∧ (bndsV L)[i * 5 + 1]? = some (.int .i64 b.v.t) ∧ (bndsV L)[i * 5 + 2]? = some (.float .f64 b.v.n) ∧ (bndsV L)[i * 5 + 3]? = some (.string (tx b.v.s)) ∧ (bndsV L)[i * 5 + 4]? = some (.bool b.v.b)
  | [], i, t, h => by cases h
  | u :: r, 0, t, h => by
    cases h
    exact ⟨rfl, rfl, rfl, rfl, rfl⟩
  | u :: r, i + 1, t, h => by
    have e : ∀ k, (bndsV (u :: r))[k + 5]? = (bndsV r)[k]? := fun k => rfl
    have g := bndsV_get r i t (by simpa using h)
    rw [show (i + 1) * 5 = i * 5 + 5 by omega, show i * 5 + 5 + 1 = (i * 5 + 1) + 5 by omega, show i * 5 + 5 + 2 = (i * 5 + 2) + 5 by omega, show i * 5 + 5 + 3 = (i * 5 + 3) + 5 by omega, show i * 5 + 5 + 4 = (i * 5 + 4) + 5 by omega, e, e, e, e, e]
    exact g
theorem bndV_row {n0 : Nat} {w : World} {v : Value} {L : List Bnd} (h : w.ownsRow n0 63 5 v L.length (bndsV L)) : BndV w v L := by
  have hc := fun g (hg : v.ownBlock = some g) => h.cells hg
  have hl := h.lt
  rcases h.2 with ⟨rfl, h3⟩ | ⟨g, cap, cur, rfl, _, _, hcap, _⟩
  · have : L = [] := List.length_eq_zero_iff.1 h3
    subst this
    exact BndV.nil w
  · refine ⟨some ⟨g, 0, none⟩, cap, rfl, hcap, (fun e => by cases e), fun a ha => ?_⟩
    cases ha
    refine ⟨fun _ => (hl g rfl).2, fun i b hi => ?_⟩
    obtain ⟨h1, h2, h3, h4, h5⟩ := bndsV_get L i b hi
    exact ⟨hc g rfl _ _ h1, hc g rfl _ _ h2, hc g rfl _ _ h3, hc g rfl _ _ h4, hc g rfl _ _ h5⟩
def cutB (b : Bnd) : Bnd := ⟨b.nm, ⟨b.v.t, b.v.n, b.v.s.take 100, b.v.b⟩⟩
def fewB (L : List Bnd) : List Bnd := (L.take 10).map cutB
theorem info_bind : ∃ i0, Tryz.prog.info? 63 = some i0 ∧ i0.zero = some (.agg #[.string ⟨#[]⟩, .int .i64 0, .float .f64 0, .string ⟨#[]⟩, .bool false]) ∧ i0.size = 5 ∧ i0.bytes = 56 :=
  info_parts (show (Tryz.prog.info? 63).map (fun i => (i.zero, i.size, i.bytes)) = some (some (.agg #[.string ⟨#[]⟩, .int .i64 0, .float .f64 0, .string ⟨#[]⟩, .bool false]), 5, 56) by kernel_rfl)
theorem five_cells (w : World) (a b c d e : Value) (T : TypeId) : ∀ j x, [a, b, c, d, e][j]? = some x → (w.alloc (.cells #[a, b, c, d, e] T)).cell? ((⟨w.heap.size, 0, none⟩ : Addr).add j) = some x := fun j x h => by
  rw [addr_add]
  have hh := heap_alloc_new w (.cells #[a, b, c, d, e] T)
  match j, h with
  | 0, h => cases h; unfold World.cell?; simp only; rw [hh]; rfl
  | 1, h => cases h; unfold World.cell?; simp only; rw [hh]; rfl
  | 2, h => cases h; unfold World.cell?; simp only; rw [hh]; rfl
  | 3, h => cases h; unfold World.cell?; simp only; rw [hh]; rfl
  | 4, h => cases h; unfold World.cell?; simp only; rw [hh]; rfl
  | j + 5, h => cases h
theorem five_cells2 (w : World) (o : Obj) (a b c d e : Value) (T : TypeId) : ∀ j x, [a, b, c, d, e][j]? = some x → ((w.alloc o).alloc (.cells #[a, b, c, d, e] T)).cell? ((⟨w.heap.size + 1, 0, none⟩ : Addr).add j) = some x := by
  have h := five_cells (w.alloc o) a b c d e T
  rwa [show (w.alloc o).heap.size = w.heap.size + 1 by simp] at h
set_option maxRecDepth 100000 in
set_option maxHeartbeats 8000000 in
theorem wfew (v : Value) (L : List Bnd) (hL : L.length ≤ 2000000) (w : World) (h : BndV w v L) : Calls Tryz.prog 13 #[v] w fun e w' => ∃ u, e = .returned u ∧ BndV w' u (fewB L) ∧ Below w.heap.size w w' := by
  obtain ⟨x, cap, rfl, hcap, hx, hc⟩ := h
  have HC := Lib.hid hc
  have HX := Lib.hid hx
  obtain ⟨i0, hi, hi0, hi1, hi2⟩ := info_bind
  have HII := Lib.hid (And.intro hi (And.intro hi0 (And.intro hi1 hi2)))
  obtain ⟨N, hN⟩ : ∃ N, N = L.length := ⟨_, rfl⟩
  have HN := Lib.hid hN
  rw [← hN] at hL hcap ⊢
  clear hc hx hN hi hi0 hi1 hi2
  go_enter Tryz.func13, Tryz.ntmps13
  go_wp2_with fail
  go_loopg [3, 4] (N + 1) (fun gh o i wr => ∃ j : Nat, j + gh = N + 1 ∧ j ≤ 10 ∧ j ≤ N ∧ i = .int .i64 j ∧ Hid (wr.ownsRow w.heap.size 63 5 o j (bndsV ((L.take j).map cutB))) ∧ Hid (Below w.heap.size w wr))
  case atStart => exact ⟨0, by omega, by omega, by omega, rfl, Lib.hid (World.ownsRow_nil _ _ _ _), Lib.hid (Below.refl _ _)⟩
  case round =>
    obtain ⟨j, hj, hj10, hjN, rfl, HO, HB⟩ := hrel
    obtain ⟨kx, kc, rfl⟩ := ownsRow_is HO.out
    by_cases q : j < N
    · by_cases q2 : j < 10
      · have hjl : j < L.length := by have := HN.out; omega
        obtain ⟨a, rfl⟩ : ∃ a, x = some a := by
          cases x with
          | none => have := HX.out rfl; rw [this] at hjl; cases hjl
          | some a => exact ⟨a, rfl⟩
        obtain ⟨e0, e1, e2, e3, e4⟩ := (HC.out a rfl).2 j L[j] (List.getElem?_eq_getElem hjl)
        have hab : a.block < w.heap.size := (HC.out a rfl).1 (nil_not hjl)
        have hs : ∀ k, wr.heap[(a.add k).block]? = w.heap[(a.add k).block]? := fun k => by rw [add_block]; exact HB.out.block _ hab
        have d0 := cell_same (hs _) e0
        have d1 := cell_same (hs _) e1
        have d2 := cell_same (hs _) e2
        have d3 := cell_same (hs _) e3
        have d4 := cell_same (hs _) e4
        rw [add_lit _ _ _ (by decide)] at d1 d2 d3 d4
        clear e0 e1 e2 e3 e4 hs
        have HTK : Hid (bndsV ((L.take (j + 1)).map cutB) = bndsV ((L.take j).map cutB) ++ bndC (cutB L[j])) := Lib.hid (by
          rw [List.take_succ_eq_append_getElem hjl, List.map_append, bndsV_app]
          simp [bndsV])
        obtain ⟨bb, hbb⟩ : ∃ bb, bb = L[j] := ⟨_, rfl⟩
        rw [← hbb] at d0 d1 d2 d3 d4 HTK
        clear hbb
        obtain ⟨nm, t, fn, sv, bv⟩ := bb
        simp only at d0 d1 d2 d3 d4
        have HS := Lib.hid (tx_size' sv)
        have hm : min ((tx sv).size : Int) 100 = ((min sv.length 100 : Nat) : Int) := by rw [HS.out]; omega
        have hle : ((min sv.length 100 : Nat) : Int) ≤ ((tx sv).size : Int) := by rw [HS.out]; omega
        have hle2 : min sv.length 100 ≤ (tx sv).size := by rw [HS.out]; omega
        have HE : Hid ((tx sv).extract 0 (min sv.length 100) = tx (sv.take 100)) := Lib.hid (by
          rw [tx_extract, List.drop_zero, Nat.sub_zero]
          by_cases h : sv.length ≤ 100
          · rw [Nat.min_eq_left h, List.take_length, List.take_of_length_le h]
          · rw [Nat.min_eq_right (by omega)])
        have HBC : Hid (bndC (cutB ⟨nm, ⟨t, fn, sv, bv⟩⟩) = [.string (tx nm), .int .i64 t, .float .f64 fn, .string ((tx sv).extract 0 (min sv.length 100)), .bool bv]) := Lib.hid (by rw [HE.out]; rfl)
        generalize min sv.length 100 = K at hm hle hle2 HE HBC
        have hbs := HB.out.size
        go_wp2_with (first | (at_builtin; go_loud (refine wpList_append_own _ rfl _ _ 36 rfl w.heap.size 63 i0 (.agg #[.string ⟨#[]⟩, .int .i64 0, .float .f64 0, .string ⟨#[]⟩, .bool false]) 5 56 Tryz.underlying36 HII.out.1 HII.out.2.1 HII.out.2.2.1 HII.out.2.2.2 rfl (by decide) _ _ _ rfl ((HO.out.alloc _).alloc _) ⟨wr.heap.size + 1, 0, none⟩ 1 1 [.string (tx nm), .int .i64 t, .float .f64 fn, .string ((tx sv).extract 0 K), .bool bv] rfl rfl (five_cells2 wr _ _ _ _ _ _ _) (by simp [Value.oneCell']) (by unfold maxLen; omega) (by omega) (by simp; omega) ?_)))
        intro v' w3 ho1 hg1 _
        have HO3 : Hid (w3.ownsRow w.heap.size 63 5 v' (j + 1) (bndsV ((L.take (j + 1)).map cutB))) := Lib.hid (by rw [HTK.out, HBC.out, List.map_take]; exact ho1)
        have HB3 : Hid (Below w.heap.size w w3) := Lib.hid (((HB.out.alloc HB.out.size _).alloc (by simp; omega) _).grown hg1 (by simp; omega) (fun k e => (HO.out.lt k e).1))
        clear ho1 hg1 d0 d1 d2 d3 d4
        go_wp2
        go_roundg (gk - 1)
        case measure => omega
        case rel => exact ⟨j + 1, by omega, by omega, by omega, by go_num, HO3, HB3⟩
      · have HR : Hid (BndV wr (.slice kx j kc) (fewB L)) := Lib.hid (bndV_row (n0 := w.heap.size) (by
          have e1 : fewB L = (L.take j).map cutB := by
            unfold fewB
            rw [show j = 10 by omega]
          rw [e1, List.length_map, List.length_take, show min j L.length = j by have := HN.out; omega]
          exact HO.out))
        have q3 : ¬ (j : Int) < 10 := by omega
        go_wp2
        go_ret
        exact ⟨_, rfl, HR.out, HB.out⟩
    · have HR : Hid (BndV wr (.slice kx j kc) (fewB L)) := Lib.hid (bndV_row (n0 := w.heap.size) (by
        have e1 : fewB L = (L.take j).map cutB := by
          unfold fewB
          rw [List.take_of_length_le (l := L) (i := 10) (by have := HN.out; omega), List.take_of_length_le (l := L) (i := j) (by have := HN.out; omega)]
        rw [e1, List.length_map, List.length_take, show min j L.length = j by have := HN.out; omega]
        exact HO.out))
      have q3 : ¬ (j : Int) < (N : Int) := by omega
      go_wp2
      go_ret
      exact ⟨_, rfl, HR.out, HB.out⟩
end Go.Proofs.YtmhfnpabgkkjaaaGreat
/- A value has the type of its tree; values that are alike (printed by gen_te.py). -/
namespace Go.Proofs.YtmhfnpabgkkjaaaGreat
open Go.RowKit Go.Shelf Ieee
set_option maxRecDepth 100000
theorem one_t (op : Bs) (a : Av) (l : List Nat) (hk : takesT op = some 1) (hne : madeT op l ≠ 0) : (oneA clN op a).t = madeT op l := by
  rcases opcases op with ⟨ho, _, _, _, _, _, _, _, _, _, _, _, _, _, _, _, _, _, _, _, _⟩ | ⟨ho, _, _, _, _, _, _, _, _, _, _, _, _, _, _, _, _, _, _, _, _⟩ | ⟨ho, _, _, _, _, _, _, _, _, _, _, _, _, _, _, _, _, _, _, _, _⟩ | ⟨ho, _, _, _, _, _, _, _, _, _, _, _, _, _, _, _, _, _, _, _, _⟩ | ⟨ho, _, _, _, _, _, _, _, _, _, _, _, _, _, _, _, _, _, _, _, _⟩ | ⟨ho, _, _, _, _, _, _, _, _, _, _, _, _, _, _, _, _, _, _, _, _⟩ | ⟨ho, _, _, _, _, _, _, _, _, _, _, _, _, _, _, _, _, _, _, _, _⟩ | ⟨ho, _, _, _, _, _, _, _, _, _, _, _, _, _, _, _, _, _, _, _, _⟩ | ⟨ho, _, _, _, _, _, _, _, _, _, _, _, _, _, _, _, _, _, _, _, _⟩ | ⟨ho, _, _, _, _, _, _, _, _, _, _, _, _, _, _, _, _, _, _, _, _⟩ | ⟨ho, _, _, _, _, _, _, _, _, _, _, _, _, _, _, _, _, _, _, _, _⟩ | ⟨ho, _, _, _, _, _, _, _, _, _, _, _, _, _, _, _, _, _, _, _, _⟩ | ⟨ho, _, _, _, _, _, _, _, _, _, _, _, _, _, _, _, _, _, _, _, _⟩ | ⟨ho, _, _, _, _, _, _, _, _, _, _, _, _, _, _, _, _, _, _, _, _⟩ | ⟨ho, _, _, _, _, _, _, _, _, _, _, _, _, _, _, _, _, _, _, _, _⟩ | ⟨ho, _, _, _, _, _, _, _, _, _, _, _, _, _, _, _, _, _, _, _, _⟩ | ⟨ho, _, _, _, _, _, _, _, _, _, _, _, _, _, _, _, _, _, _, _, _⟩ | ⟨ho, _, _, _, _, _, _, _, _, _, _, _, _, _, _, _, _, _, _, _, _⟩ | ⟨ho, _, _, _, _, _, _, _, _, _, _, _, _, _, _, _, _, _, _, _, _⟩ | ⟨ho, _, _, _, _, _, _, _, _, _, _, _, _, _, _, _, _, _, _, _, _⟩ | ⟨ho, _, _, _, _, _, _, _, _, _, _, _, _, _, _, _, _, _, _, _, _⟩
  · subst ho; exact absurd hk (by decide)
  · subst ho; exact absurd hk (by decide)
  · subst ho; exact absurd hk (by decide)
  · subst ho
    have e : madeT [110, 111, 116] l = giv 3 (allT 3 l) := by kernel_rfl
    rw [e] at hne ⊢
    exact Eq.trans (by kernel_rfl) (giv_range 3 _ hne).symm
  · subst ho
    have e : madeT [110, 101, 103] l = giv 1 (allT 1 l) := by kernel_rfl
    rw [e] at hne ⊢
    exact Eq.trans (by kernel_rfl) (giv_range 1 _ hne).symm
  · subst ho
    have e : madeT [108, 101, 110] l = giv 1 (allT 2 l) := by kernel_rfl
    rw [e] at hne ⊢
    exact Eq.trans (by kernel_rfl) (giv_range 1 _ hne).symm
  · subst ho
    have e : madeT [97, 98, 115] l = giv 1 (allT 1 l) := by kernel_rfl
    rw [e] at hne ⊢
    exact Eq.trans (by kernel_rfl) (giv_range 1 _ hne).symm
  · subst ho; exact absurd hk (by decide)
  · subst ho; exact absurd hk (by decide)
  · subst ho; exact absurd hk (by decide)
  · subst ho; exact absurd hk (by decide)
  · subst ho; exact absurd hk (by decide)
  · subst ho; exact absurd hk (by decide)
  · subst ho; exact absurd hk (by decide)
  · subst ho; exact absurd hk (by decide)
  · subst ho; exact absurd hk (by decide)
  · subst ho; exact absurd hk (by decide)
  · subst ho; exact absurd hk (by decide)
  · subst ho; exact absurd hk (by decide)
  · subst ho; exact absurd hk (by decide)
  · rw [takes_none ho] at hk; cases hk
theorem two_t (op : Bs) (a b : Av) (l : List Nat) (hk : takesT op = some 2) (hne : madeT op l ≠ 0) : (twoA op a b).t = madeT op l := by
  rcases opcases op with ⟨ho, _, _, _, _, _, _, _, _, _, _, _, _, _, _, _, _, _, _, _, _⟩ | ⟨ho, _, _, _, _, _, _, _, _, _, _, _, _, _, _, _, _, _, _, _, _⟩ | ⟨ho, _, _, _, _, _, _, _, _, _, _, _, _, _, _, _, _, _, _, _, _⟩ | ⟨ho, _, _, _, _, _, _, _, _, _, _, _, _, _, _, _, _, _, _, _, _⟩ | ⟨ho, _, _, _, _, _, _, _, _, _, _, _, _, _, _, _, _, _, _, _, _⟩ | ⟨ho, _, _, _, _, _, _, _, _, _, _, _, _, _, _, _, _, _, _, _, _⟩ | ⟨ho, _, _, _, _, _, _, _, _, _, _, _, _, _, _, _, _, _, _, _, _⟩ | ⟨ho, _, _, _, _, _, _, _, _, _, _, _, _, _, _, _, _, _, _, _, _⟩ | ⟨ho, _, _, _, _, _, _, _, _, _, _, _, _, _, _, _, _, _, _, _, _⟩ | ⟨ho, _, _, _, _, _, _, _, _, _, _, _, _, _, _, _, _, _, _, _, _⟩ | ⟨ho, _, _, _, _, _, _, _, _, _, _, _, _, _, _, _, _, _, _, _, _⟩ | ⟨ho, _, _, _, _, _, _, _, _, _, _, _, _, _, _, _, _, _, _, _, _⟩ | ⟨ho, _, _, _, _, _, _, _, _, _, _, _, _, _, _, _, _, _, _, _, _⟩ | ⟨ho, _, _, _, _, _, _, _, _, _, _, _, _, _, _, _, _, _, _, _, _⟩ | ⟨ho, _, _, _, _, _, _, _, _, _, _, _, _, _, _, _, _, _, _, _, _⟩ | ⟨ho, _, _, _, _, _, _, _, _, _, _, _, _, _, _, _, _, _, _, _, _⟩ | ⟨ho, _, _, _, _, _, _, _, _, _, _, _, _, _, _, _, _, _, _, _, _⟩ | ⟨ho, _, _, _, _, _, _, _, _, _, _, _, _, _, _, _, _, _, _, _, _⟩ | ⟨ho, _, _, _, _, _, _, _, _, _, _, _, _, _, _, _, _, _, _, _, _⟩ | ⟨ho, _, _, _, _, _, _, _, _, _, _, _, _, _, _, _, _, _, _, _, _⟩ | ⟨ho, _, _, _, _, _, _, _, _, _, _, _, _, _, _, _, _, _, _, _, _⟩
  · subst ho; exact absurd hk (by decide)
  · subst ho; exact absurd hk (by decide)
  · subst ho; exact absurd hk (by decide)
  · subst ho; exact absurd hk (by decide)
  · subst ho; exact absurd hk (by decide)
  · subst ho; exact absurd hk (by decide)
  · subst ho; exact absurd hk (by decide)
  · subst ho
    have e : madeT [111, 114] l = giv 3 (allT 3 l) := by kernel_rfl
    rw [e] at hne ⊢
    exact Eq.trans (by kernel_rfl) (giv_range 3 _ hne).symm
  · subst ho
    have e : madeT [97, 110, 100] l = giv 3 (allT 3 l) := by kernel_rfl
    rw [e] at hne ⊢
    exact Eq.trans (by kernel_rfl) (giv_range 3 _ hne).symm
  · subst ho
    have e : madeT [104, 97, 115] l = giv 3 (allT 2 l) := by kernel_rfl
    rw [e] at hne ⊢
    exact Eq.trans (by kernel_rfl) (giv_range 3 _ hne).symm
  · subst ho
    have e : madeT [61] l = giv 3 (l.getD 0 0 == l.getD 1 0) := by kernel_rfl
    rw [e] at hne ⊢
    exact Eq.trans (by kernel_rfl) (giv_range 3 _ hne).symm
  · subst ho
    have e : madeT [33, 61] l = giv 3 (l.getD 0 0 == l.getD 1 0) := by kernel_rfl
    rw [e] at hne ⊢
    exact Eq.trans (by kernel_rfl) (giv_range 3 _ hne).symm
  · subst ho
    have e : madeT [60] l = giv 3 (allT 1 l) := by kernel_rfl
    rw [e] at hne ⊢
    exact Eq.trans (by kernel_rfl) (giv_range 3 _ hne).symm
  · subst ho
    have e : madeT [60, 61] l = giv 3 (allT 1 l) := by kernel_rfl
    rw [e] at hne ⊢
    exact Eq.trans (by kernel_rfl) (giv_range 3 _ hne).symm
  · subst ho
    have e : madeT [62] l = giv 3 (allT 1 l) := by kernel_rfl
    rw [e] at hne ⊢
    exact Eq.trans (by kernel_rfl) (giv_range 3 _ hne).symm
  · subst ho
    have e : madeT [62, 61] l = giv 3 (allT 1 l) := by kernel_rfl
    rw [e] at hne ⊢
    exact Eq.trans (by kernel_rfl) (giv_range 3 _ hne).symm
  · subst ho
    have e : madeT [43] l = giv 1 (allT 1 l) := by kernel_rfl
    rw [e] at hne ⊢
    exact Eq.trans (by kernel_rfl) (giv_range 1 _ hne).symm
  · subst ho
    have e : madeT [45] l = giv 1 (allT 1 l) := by kernel_rfl
    rw [e] at hne ⊢
    exact Eq.trans (by kernel_rfl) (giv_range 1 _ hne).symm
  · subst ho
    have e : madeT [42] l = giv 1 (allT 1 l) := by kernel_rfl
    rw [e] at hne ⊢
    exact Eq.trans (by kernel_rfl) (giv_range 1 _ hne).symm
  · subst ho
    have e : madeT [47] l = giv 1 (allT 1 l) := by kernel_rfl
    rw [e] at hne ⊢
    exact Eq.trans (by kernel_rfl) (giv_range 1 _ hne).symm
  · rw [takes_none ho] at hk; cases hk
theorem ev_ty {L : List Bnd} {t : Tree} (h : (tyT L t).2 = 0) : (evT clN L t).t = (tyT L t).1 := by
  obtain ⟨op, fn, s, c⟩ := t
  obtain ⟨h1, h2, h3⟩ := ty_ok h
  rw [tyT_good L op s fn c h2, if_neg (fun e => e h1)] at h ⊢
  rw [evT]
  by_cases o0 : op = wnum
  · rw [if_pos o0, if_pos o0]; rfl
  · rw [if_neg o0] at h ⊢
    rw [if_neg o0]
    by_cases o1 : op = wtext
    · rw [if_pos o1, if_pos o1]
    · rw [if_neg o1] at h ⊢
      rw [if_neg o1]
      by_cases o2 : op = wname
      · rw [if_pos o2] at h ⊢
        rw [if_pos o2]
        obtain ⟨v, hv⟩ := h3 o2
        rw [hv]
        rfl
      · rw [if_neg o2] at h ⊢
        rw [if_neg o2]
        by_cases m0 : madeT op (c.map (fun t => (tyT L t).1)) = 0
        · rw [if_pos m0] at h; cases h
        · rw [if_neg m0]
          rcases takes_12 h1 o0 o1 o2 with ⟨hl, _⟩ | ⟨hl, _⟩
          · match c, hl, h1, m0 with
            | [t0], _, h1, m0 => exact one_t op _ _ h1 m0
          · match c, hl, h1, m0 with
            | [t0, t1], _, h1, m0 => exact two_t op _ _ _ h1 m0
theorem alike {va vb : Value} {A : Av} (ha : ValV va A) (hb : ValV vb A) : ∃ a b : Vl, va = vlV a ∧ vb = vlV b ∧ sameV a b = true ∧ a.t = A.t := by
  obtain ⟨na, rfl, h1⟩ := ha
  obtain ⟨nb, rfl, h2⟩ := hb
  refine ⟨⟨A.t, na, A.s, A.b⟩, ⟨A.t, nb, A.s, A.b⟩, rfl, rfl, ?_, rfl⟩
  unfold sameV
  rw [if_neg (by simp)]
  simp only
  rw [sameN_fA (h1.trans h2.symm)]
  simp
theorem few_ok {L : List Bnd} : BOk (fewB L) := by
  refine ⟨by unfold fewB; rw [List.length_map, List.length_take]; omega, fun b hb => ?_⟩
  unfold fewB at hb
  obtain ⟨u, _, rfl⟩ := List.mem_map.1 hb
  show (u.v.s.take 100).length ≤ 900000
  rw [List.length_take]
  omega
theorem few_nb {L : List Bnd} (h : ∀ b ∈ L, b.v.n < 2 ^ 64) : ∀ b ∈ fewB L, b.v.n < 2 ^ 64 := fun b hb => by
  unfold fewB at hb
  obtain ⟨u, hu, rfl⟩ := List.mem_map.1 hb
  exact h u (List.mem_of_mem_take hu)
end Go.Proofs.YtmhfnpabgkkjaaaGreat
/- Walk: the law RuleEvals. -/
namespace Go.Proofs.YtmhfnpabgkkjaaaGreat
open Go.RowKit Go.Shelf Ieee
attribute [local go_sem] run_store_float
theorem evP_t {L : List Bnd} {t : Tree} (h : (tyP L t).2 = 0) : (evP L t).t = (tyP L t).1 := by
  unfold evP
  rw [if_pos h]
  have h2 := tyP_ok h
  unfold tyP at h ⊢
  split at h
  · cases h
  · rename_i hd
    rw [if_neg hd]
    exact ev_ty h2
set_option maxRecDepth 100000 in
set_option maxHeartbeats 16000000 in
theorem evals_tx (t : Tree) (hbk : bkT t ≤ 2000000) (hnb : nbT t) (A : Nat → Prop) (v : Value) (L : List Bnd) (hL : L.length ≤ 2000000) (hLN : ∀ b ∈ L, b.v.n < 2 ^ 64) (vb : Value) (l : Bs) (m : Int) (w : World) (hv : NodeV A w v t) (hbv : BndV w vb L) (hm : MaxLn m w) :
    Calls Tryz.prog 4 #[v, .string (tx l), vb] w fun e w' => e = .returned (.bool true) ∧ Below w.heap.size w w' := by
  have HSZ := Lib.hid (fun W (h : NodeV A W v t) => wsize _ t (Nat.le_refl _) A v W hbk h)
  have HAW := Lib.hid (fun W (h : MaxLn m W) => wawake m W h)
  have HFW := Lib.hid (fun W (h : BndV W vb L) => wfew vb L hL W h)
  have HCUT := Lib.hid (fun W => wlawCut l W)
  have HMX := Lib.hid hm
  have HV := Lib.hid hv
  have HBV := Lib.hid hbv
  obtain ⟨S, hS⟩ : ∃ S, S = l.take 400 := ⟨_, rfl⟩
  have hSl : S.length ≤ 400 := by rw [hS, List.length_take]; omega
  rw [← hS] at HCUT
  have HSM : Hid (szS t ≤ 400 → szT t ≤ 1000000 ∧ txT 900000 t) := Lib.hid (fun h => by
    have h1 := small_T t h
    exact ⟨by omega, tx_mono (by omega) t h1.2⟩)
  have HOK : Hid (BOk (fewB L)) := Lib.hid few_ok
  have HFN := Lib.hid (few_nb hLN)
  obtain ⟨F, hF⟩ : ∃ F, F = fewB L := ⟨_, rfl⟩
  rw [← hF] at HFW HOK HFN
  have HE1 := Lib.hid (fun (h0 : szS t ≤ 400) (u : Value) W (h : NodeV A W v t) (k : BndV W u F) (q : MaxLn m W) => wEval F HOK.out u t (HSM.out h0).1 (HSM.out h0).2 A v m W h k q)
  have HE2 := Lib.hid (fun (h0 : szS t ≤ 400) (u : Value) W (h : NodeV A W v t) (k : BndV W u F) (q : MaxLn m W) => rEval F HOK.out HFN.out u t (HSM.out h0).1 (HSM.out h0).2 hnb A v m W h k q)
  have HH1 := Lib.hid (fun (u : Value) W (k : BndV W u F) (q : MaxLn m W) => wHolds F HOK.out u S (by omega) m W k q)
  have HH2 := Lib.hid (fun (u : Value) W (k : BndV W u F) (q : MaxLn m W) => rHolds F HOK.out HFN.out u S (by omega) m W k q)
  have HTO := Lib.hid (fun (h0 : szS t ≤ 400) (u : Value) W (h : NodeV A W v t) (k : BndV W u F) => wtypeOf F HOK.out.1 u t A v W (HSM.out h0).1 h k)
  have HTT : Hid ((tyP F t).2 = 0 → (evP F t).t = (tyP F t).1) := Lib.hid (fun h => evP_t h)
  obtain ⟨AV, hAV⟩ : ∃ AV, AV = evP F t := ⟨_, rfl⟩
  obtain ⟨TT, hTT⟩ : ∃ TT, TT = tyP F t := ⟨_, rfl⟩
  obtain ⟨HO, hHO⟩ : ∃ HO, HO = hoP F S := ⟨_, rfl⟩
  rw [← hAV, ← hTT] at HE1 HE2 HTT
  rw [← hTT] at HTO
  rw [← hHO] at HH1 HH2
  obtain ⟨T1, T2⟩ := TT
  obtain ⟨H1, H2⟩ := HO
  simp only at HE1 HE2 HTT HTO HH1 HH2
  obtain ⟨o, n, s, x, k, c, rfl⟩ := hv.agg
  obtain ⟨bx, bn, bc, rfl⟩ := hbv.agg
  have HB0 := Lib.hid (bel1 w (.cells #[.string o, .float .f64 n, .string s, .slice x k c] 26))
  have HNB : Hid (NB (w.alloc (.cells #[.string o, .float .f64 n, .string s, .slice x k c] 26)) w.heap.size (.agg #[.string o, .float .f64 n, .string s, .slice x k c])) := Lib.hid ⟨_, _, _, _, rfl, heap_alloc_new _ _⟩
  clear hv hbv hm hbk hnb hL hLN hS hSl hF hAV hTT hHO HSM HOK HFN
  go_enter Tryz.func4, Tryz.ntmps4
  go_wp2_with (first | (go_at_call 12; fail))
  generalize w.alloc (.cells #[.string o, .float .f64 n, .string s, .slice x k c] 26) = W0 at HB0 HNB ⊢
  go_at_call 12
  refine (HSZ.out W0 (HV.out.below HB0.out)).mono ?_
  rintro e w2 ⟨rfl, hb2⟩
  have HB2 := Lib.hid (HB0.out.trans (below_le hb2 HB0.out.size))
  have HNB2 := Lib.hid (HNB.out.below hb2)
  clear hb2 HSZ HB0 HNB
  by_cases q : 400 < szS t
  · generalize szS t = Z at q ⊢
    have q1 : 400 < (Z : Int) := by omega
    go_wp2_with (first | (go_at_call 11; fail))
    go_at_call 11
    refine (HAW.out w2 (HMX.out.below HB2.out)).mono ?_
    rintro e w3 ⟨rfl, hb3⟩
    have HB3 := Lib.hid (HB2.out.trans (below_le hb3 HB2.out.size))
    clear hb3
    go_wp2
    go_ret
    exact ⟨rfl, HB3.out⟩
  · have h400 : szS t ≤ 400 := by omega
    have HE1 := Lib.hid (HE1.out h400)
    have HE2 := Lib.hid (HE2.out h400)
    have HTO := Lib.hid (HTO.out h400)
    generalize szS t = Z at q h400 ⊢
    have q1 : ¬ 400 < (Z : Int) := by omega
    go_wp2_with (first | (go_at_call 13; fail))
    go_at_call 13
    refine (HFW.out w2 (HBV.out.below HB2.out)).mono ?_
    rintro e w3 ⟨u, rfl, hu, hb3⟩
    obtain ⟨ux, un, uc, rfl⟩ := hu.agg
    have HU := Lib.hid hu
    have HB3 := Lib.hid (HB2.out.trans (below_le hb3 HB2.out.size))
    have HNB3 := Lib.hid (HNB2.out.below hb3)
    have hl3 := HNB3.out.lt
    obtain ⟨p0, p1, p2, p3, _⟩ := HNB3.out.cells
    clear hu hb3 HFW HB2 HNB2 HBV
    go_wp2_with (first | (go_at_call 5; refine (HCUT.out _).mono ?_; rintro e w9 ⟨rfl, rfl⟩) | (go_at_call 14; fail))
    refine (HE1.out _ w3 (HV.out.below HB3.out) HU.out (HMX.out.below HB3.out)).mono ?_
    rintro e w4 ⟨va, rfl, ⟨na, rfl, hna⟩, hb4⟩
    have hal4 : Below w4.heap.size w4 (w4.alloc (.cells #[.int .i64 AV.t, .float .f64 na, .string (tx AV.s), .bool AV.b] 40)) := (Below.refl _ _).alloc (Nat.le_refl _) _
    have h34 : Below w3.heap.size w3 (w4.alloc (.cells #[.int .i64 AV.t, .float .f64 na, .string (tx AV.s), .bool AV.b] 40)) := hb4.trans (below_le hal4 hb4.size)
    have HB5 := Lib.hid (HB3.out.trans (below_le h34 HB3.out.size))
    have HNB5 := Lib.hid (HNB3.out.below h34)
    have HU5 := Lib.hid (HU.out.below h34)
    have HG5 : Hid (VB (w4.alloc (.cells #[.int .i64 AV.t, .float .f64 na, .string (tx AV.s), .bool AV.b] 40)) w4.heap.size (.int .i64 AV.t) (.float .f64 na) (.string (tx AV.s)) (.bool AV.b)) := Lib.hid (heap_alloc_new _ _)
    have HNA := Lib.hid hna
    clear hna hal4 h34 hb4 HB3 HNB3 HU HE1 p0 p1 p2 p3 hl3
    go_upto_region 5 with (fail)
    generalize (w4.alloc (.cells #[.int .i64 AV.t, .float .f64 na, .string (tx AV.s), .bool AV.b] 40)) = W5 at HB5 HNB5 HU5 HG5 ⊢
    generalize w4.heap.size = g5 at HG5 ⊢
    have hl5 := HNB5.out.lt
    obtain ⟨p0, p1, p2, p3, _⟩ := HNB5.out.cells
    go_wp2_with (first | (go_at_call 15; fail))
    refine (HE2.out _ W5 (HV.out.below HB5.out) HU5.out (HMX.out.below HB5.out)).mono ?_
    rintro e w6 ⟨vb2, rfl, ⟨nb, rfl, hnb⟩, hb6⟩
    have hal6 : Below w6.heap.size w6 (w6.alloc (.cells #[.int .i64 AV.t, .float .f64 nb, .string (tx AV.s), .bool AV.b] 40)) := (Below.refl _ _).alloc (Nat.le_refl _) _
    have h56 : Below W5.heap.size W5 (w6.alloc (.cells #[.int .i64 AV.t, .float .f64 nb, .string (tx AV.s), .bool AV.b] 40)) := hb6.trans (below_le hal6 hb6.size)
    have HB7 := Lib.hid (HB5.out.trans (below_le h56 HB5.out.size))
    have HNB7 := Lib.hid (HNB5.out.below h56)
    have HU7 := Lib.hid (HU5.out.below h56)
    have HG57 := Lib.hid (HG5.out.below h56)
    have HG7 : Hid (VB (w6.alloc (.cells #[.int .i64 AV.t, .float .f64 nb, .string (tx AV.s), .bool AV.b] 40)) w6.heap.size (.int .i64 AV.t) (.float .f64 nb) (.string (tx AV.s)) (.bool AV.b)) := Lib.hid (heap_alloc_new _ _)
    have HSA : Hid (∀ W, Calls Tryz.prog 18 #[.agg #[.int .i64 AV.t, .float .f64 na, .string (tx AV.s), .bool AV.b], .agg #[.int .i64 AV.t, .float .f64 nb, .string (tx AV.s), .bool AV.b]] W fun e w' => e = .returned (.bool true) ∧ Below W.heap.size W w') := Lib.hid (fun W => by
      have h := rSame ⟨AV.t, na, AV.s, AV.b⟩ ⟨AV.t, nb, AV.s, AV.b⟩ W
      have e : sameV ⟨AV.t, na, AV.s, AV.b⟩ ⟨AV.t, nb, AV.s, AV.b⟩ = true := by
        unfold sameV
        rw [if_neg (by simp)]
        simp only
        rw [sameN_fA (HNA.out.trans hnb.symm)]
        simp
      rw [e] at h
      exact h)
    clear hnb hal6 h56 hb6 HB5 HNB5 HU5 HG5 HE2 HNA p0 p1 p2 p3 hl5
    go_upto_region 6 with (fail)
    generalize (w6.alloc (.cells #[.int .i64 AV.t, .float .f64 nb, .string (tx AV.s), .bool AV.b] 40)) = W7 at HB7 HNB7 HU7 HG57 HG7 ⊢
    generalize w6.heap.size = g7 at HG7 ⊢
    go_wp2_with (first | (go_at_call 16; fail))
    refine (HH1.out _ W7 HU7.out (HMX.out.below HB7.out)).mono ?_
    rintro e w8 ⟨rfl, hb8⟩
    have HB8 := Lib.hid (HB7.out.trans (below_le hb8 HB7.out.size))
    have HNB8 := Lib.hid (HNB7.out.below hb8)
    have HU8 := Lib.hid (HU7.out.below hb8)
    have HG58 := Lib.hid (HG57.out.below hb8)
    have HG8 := Lib.hid (HG7.out.below hb8)
    clear hb8 HB7 HNB7 HU7 HG57 HG7 HH1
    go_wp2_with (first | (go_at_call 17; fail))
    refine (HH2.out _ w8 HU8.out (HMX.out.below HB8.out)).mono ?_
    rintro e w9 ⟨rfl, hb9⟩
    have HB9 := Lib.hid (HB8.out.trans (below_le hb9 HB8.out.size))
    have HNB9 := Lib.hid (HNB8.out.below hb9)
    have HU9 := Lib.hid (HU8.out.below hb9)
    have HG59 := Lib.hid (HG58.out.below hb9)
    obtain ⟨c0, c1, c2, c3⟩ := (HG58.out.below hb9).cells
    obtain ⟨d0, d1, d2, d3⟩ := (HG8.out.below hb9).cells
    have hl9 := (HG58.out.below hb9).lt
    have hl9' := (HG8.out.below hb9).lt
    clear hb9 HB8 HNB8 HU8 HG58 HG8 HH2
    go_wp2_with (first | (go_at_call 18; fail))
    refine (HSA.out w9).mono ?_
    rintro e w10 ⟨rfl, hb10⟩
    have HB10 := Lib.hid (HB9.out.trans (below_le hb10 HB9.out.size))
    have HNB10 := Lib.hid (HNB9.out.below hb10)
    have HU10 := Lib.hid (HU9.out.below hb10)
    have HG10 := Lib.hid (HG59.out.below hb10)
    have hl10 := HNB10.out.lt
    obtain ⟨p0, p1, p2, p3, _⟩ := HNB10.out.cells
    clear hb10 HB9 HNB9 HU9 HG59 HSA c0 c1 c2 c3 d0 d1 d2 d3 hl9 hl9'
    go_wp2_with (first | (go_at_call 19; fail))
    refine (HTO.out _ w10 (HV.out.below HB10.out) HU10.out).mono ?_
    rintro e w11 ⟨rfl, hb11⟩
    have HB11 := Lib.hid (HB10.out.trans (below_le hb11 HB10.out.size))
    obtain ⟨c0, c1, c2, c3⟩ := (HG10.out.below hb11).cells
    have hl11 := (HG10.out.below hb11).lt
    have HAW11 := Lib.hid (HAW.out w11 (HMX.out.below HB11.out))
    clear hb11 HB10 HNB10 HU10 HG10 HTO HAW p0 p1 p2 p3 hl10
    by_cases qe : T2 = 0
    · have hT := HTT.out qe
      subst qe
      rw [hT] at c0
      have b1 : ((T1 : Int) == (T1 : Int)) = true := beq_self_eq_true _
      clear HTT
      go_wp2_with (first | (go_at_call 11; fail))
      go_at_call 11
      refine (HAW11.out).mono ?_
      rintro e w12 ⟨rfl, hb12⟩
      have HB12 := Lib.hid (HB11.out.trans (below_le hb12 HB11.out.size))
      clear hb12
      go_wp2
      go_ret
      exact ⟨rfl, HB12.out⟩
    · have q5 : ((T2 : Int) == 0) = false := by simpa using (show ¬ ((T2 : Int) = 0) by omega)
      clear HTT
      go_wp2_with (first | (go_at_call 11; fail))
      go_at_call 11
      refine (HAW11.out).mono ?_
      rintro e w12 ⟨rfl, hb12⟩
      have HB12 := Lib.hid (HB11.out.trans (below_le hb12 HB11.out.size))
      clear hb12
      go_wp2
      go_ret
      exact ⟨rfl, HB12.out⟩
end Go.Proofs.YtmhfnpabgkkjaaaGreat
