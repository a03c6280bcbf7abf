/- Own texts, merged: QJ, QK, QL. -/
import Derived.Defers
import Derived.Recover
import Derived.Tactics2
import Derived.Laws.Pointers
import Derived.Test.YtdomglkcfecnnaaGreatMP34
/- Walk: read. -/
namespace Go.Proofs.YtdomglkcfecnnaaGreat
open Go.RowKit Go.Shelf
attribute [local go_sem] run_store_float
/-- What reading a whole text gives. -/
def readP (l : Bs) : Option Tree :=
  if (lex l).1 = [] ∧ (lex l).2 = false then none
  else match P valV (lex l).2 (12 * (lex l).1.length + 11) .or (lex l).1 with
  | some (t, []) => some t
  | _ => none
abbrev zeroN : Value := .agg #[.string ⟨#[]⟩, .float .f64 0, .string ⟨#[]⟩, .slice none 0 0]
set_option maxRecDepth 100000 in
theorem catch_yes (g h : Nat) (z b : Value) (pv : Value) (older : List PanicEntry) (w : World) (hg : NB w g z) (hb : w.heap[h]? = some (.cells #[b] 4 (0, 0))) (hgh : g ≠ h) :
    CallsD Tryz.prog 81 #[.pointer (some ⟨g, 0, none⟩), .pointer (some ⟨h, 0, none⟩)] (.panicking ({ v := .iface 159 pv, recovered := false } :: older)) w fun e u' w' =>
      e = .returned (.tuple #[]) ∧ u' = .panicking ({ v := .iface 159 pv, recovered := true } :: older) ∧ w' = (putN w g (.string ⟨#[]⟩) (.float .f64 0) (.string ⟨#[]⟩) (.slice none 0 0)).setCell ⟨h, 0, none⟩ (.bool false) := by
  refine callsD_of_wpS Tryz.func81 rfl fun c₀ cs hu => ?_
  apply wpS_seq
  apply wpS_region
  simp [wpOpsS, go_sem, recoverD, hu, Tryz.ntmps81, Exit.thenS]
  refine wpS_cond (t := true) (by simp [Act.eval, Array.replicate]) ?_
  simp only [if_true]
  apply wpS_region
  obtain ⟨v0, v1, v2, v3, rfl, hh⟩ := hg
  obtain ⟨c0, c1, c2, c3, cf⟩ := NB.cells (v0 := v0) (v1 := v1) (v2 := v2) (v3 := v3) ⟨_, _, _, _, rfl, hh⟩
  have d0 : w.cell? ⟨h, 0, none⟩ = some b := by simp [World.cell?, hb]
  have df : w.frozen? ⟨h, 0, none⟩ = false := by simp [World.frozen?, hb]
  have hgh2 : h ≠ g := fun e => hgh e.symm
  simp [wpOpsS, go_sem, c0, c1, c2, c3, cf, d0, df, bodyPostS, results, Tryz.results81]
  rfl
theorem catch_no (g h : Nat) (w : World) :
    CallsD Tryz.prog 81 #[.pointer (some ⟨g, 0, none⟩), .pointer (some ⟨h, 0, none⟩)] .returning w fun e u' w' => e = .returned (.tuple #[]) ∧ u' = .returning ∧ w' = w := by
  refine callsD_of_wpS Tryz.func81 rfl fun c₀ cs hu => ?_
  apply wpS_seq
  apply wpS_region
  simp [wpOpsS, go_sem, recoverD, hu, Tryz.ntmps81, Exit.thenS]
  refine wpS_cond (t := false) (by simp [Act.eval, Array.replicate]) ?_
  simp only [Bool.false_eq_true, if_false]
  refine wpS_of_wp (wp_skip ?_)
  cases c₀
  simp_all [bodyPostS, results, Tryz.results81]
theorem alloc_new1 (w : World) (o1 o2 : Obj) : ((w.alloc o1).alloc o2).heap[w.heap.size + 1]? = some o2 := by
  have h := heap_alloc_new (w.alloc o1) o2
  rwa [show (w.alloc o1).heap.size = w.heap.size + 1 by simp] at h
theorem alloc_new2 (w : World) (o1 o2 o3 : Obj) : (((w.alloc o1).alloc o2).alloc o3).heap[w.heap.size + 2]? = some o3 := by
  have h := heap_alloc_new ((w.alloc o1).alloc o2) o3
  rwa [show ((w.alloc o1).alloc o2).heap.size = w.heap.size + 2 by simp] at h
theorem read_res (tmps : Array Value) (w : World) (g h : Nat) (v0 v1 v2 v3 b : Value) (hp : tmps.getD 2 undef = .pointer (some ⟨g, 0, none⟩)) (hq : tmps.getD 3 undef = .pointer (some ⟨h, 0, none⟩))
    (hg : w.heap[g]? = some (.cells #[v0, v1, v2, v3] 119 (0, 0))) (hb : w.heap[h]? = some (.cells #[b] 4 (0, 0))) : (results Tryz.f68 tmps).run Tryz.prog w = .ok (.tuple #[.agg #[v0, v1, v2, v3], b]) w := by
  have hp' : tmps[2]?.getD undef = .pointer (some ⟨g, 0, none⟩) := by simpa using hp
  have hq' : tmps[3]?.getD undef = .pointer (some ⟨h, 0, none⟩) := by simpa using hq
  have d0 : w.cell? ⟨h, 0, none⟩ = some b := by simp [World.cell?, hb]
  have hl := run_loadVar_row (P := Tryz.prog) w g 119 119 #[v0, v1, v2, v3] (0, 0) _ hg Tryz.underlying119 rfl (by kernel_rfl)
  have hl2 : (loadVar 4 ⟨h, 0, none⟩).run Tryz.prog w = .ok b w := by simp [go_sem, d0]
  simp [results, Tryz.results68, hp', hq', asAddr, hl, hl2]
theorem below_but {n r : Nat} {w a b : World} (h : Below n w a) (k : But [r] a b) (hr : n ≤ r) (hn : n ≤ a.heap.size) : Below n w b :=
  ⟨k.os.trans h.os, k.tape.trans h.tape, k.output.trans h.output, Nat.le_trans h.size k.size, fun j hj => (k.block j (by omega) (by simp; omega)).trans (h.block j hj)⟩
theorem below_put {n g : Nat} {w a : World} {v0 v1 v2 v3 : Value} (h : Below n w a) (hg : n ≤ g) : Below n w (putN a g v0 v1 v2 v3) :=
  (((h.setCell (show n ≤ (⟨g, 0, none⟩ : Addr).block from hg) v0).setCell (show n ≤ (⟨g, 1, none⟩ : Addr).block from hg) v1).setCell (show n ≤ (⟨g, 2, none⟩ : Addr).block from hg) v2).setCell (show n ≤ (⟨g, 3, none⟩ : Addr).block from hg) v3
/-- What read ends in. -/
def ReadEnd (l : Bs) (w : World) (e : Ending) (w' : World) : Prop := Below w.heap.size w w' ∧
  ((readP l = none ∧ e = .returned (.tuple #[zeroN, .bool false])) ∨ ∃ t v, readP l = some t ∧ e = .returned (.tuple #[v, .bool true]) ∧ NodeV (fun b => w.heap.size ≤ b) w' v t)
/-- Before the reading begins. -/
def readW (l : Bs) (w : World) : World := ((w.alloc (.cells #[.string ⟨#[]⟩, .float .f64 0, .string ⟨#[]⟩, .slice none 0 0] 119)).alloc (.cells #[.bool false] 4)).alloc (.cells #[.string (tx l), .int .i64 0, .int .i64 0, .string ⟨#[]⟩] 157)
set_option maxRecDepth 100000 in
set_option maxHeartbeats 4000000 in
theorem wread (l : Bs) (hl : l.length ≤ 1000000) (w : World) : Calls Tryz.prog 68 #[.string (tx l)] w (ReadEnd l w) := by
  have hmf : ∀ (fn : Fn) (first cap : Array Value) (w : World), (Instr.makeFunc fn first cap).run Tryz.prog w = .ok (.func fn first cap) w := fun _ _ _ _ => rfl
  have HR : Hid (Rd (readW l w) (w.heap.size + 2) l 0 0 []) := Lib.hid (alloc_new2 w _ _ _)
  have HNX : Hid (Calls Tryz.prog 82 #[.pointer (some ⟨w.heap.size + 2, 0, none⟩)] (readW l w) fun e w' => But [w.heap.size + 2] (readW l w) w' ∧ (((lex l).1 = [] ∧ (lex l).2 = false ∧ Pan e) ∨ (¬ ((lex l).1 = [] ∧ (lex l).2 = false) ∧ e = .returned (.tuple #[]) ∧ St (w.heap.size + 2) l (lex l).2 (lex l).1 w'))) :=
    Lib.hid (wqstep (w.heap.size + 2) l (lex l).2 (lex l).1 0 0 [] hl (Nat.zero_le _) (readW l w) HR.out (by simp))
  have HL := Lib.hid hl
  have HP : Hid (readP l = if (lex l).1 = [] ∧ (lex l).2 = false then none
      else match P valV (lex l).2 (12 * (lex l).1.length + 11) .or (lex l).1 with
      | some (t, []) => some t
      | _ => none) := Lib.hid rfl
  have HOR := Lib.hid (fun W h => wreadOr l (lex l).2 hl (12 * (lex l).1.length + 11) (w.heap.size + 2) (lex l).1 W (Nat.le_refl _) h)
  have HG : Hid (NB (readW l w) w.heap.size zeroN ∧ (readW l w).heap[w.heap.size + 1]? = some (.cells #[.bool false] 4 (0, 0)) ∧ Below w.heap.size w (readW l w) ∧ (readW l w).heap.size = w.heap.size + 3) := Lib.hid (by
    refine ⟨⟨_, _, _, _, rfl, ?_⟩, ?_, ?_, by simp [readW]⟩
    · unfold readW
      rw [heap_alloc_old _ _ (by simp; omega), heap_alloc_old _ _ (by simp)]
      exact heap_alloc_new _ _
    · unfold readW
      rw [heap_alloc_old _ _ (by simp)]
      exact alloc_new1 w _ _
    · exact (((Below.refl _ _).alloc (Nat.le_refl _) _).alloc (by simp) _).alloc (by simp; omega) _)
  unfold readW at HNX HG
  clear hl HR
  go_enter_defers Tryz.func68, Tryz.ntmps68
  go_wp2_with (first | (go_at_call 82; fail))
  refine (HNX.out).mono ?_
  rintro e w1 ⟨hb1, ⟨h1, h2, rfl⟩ | ⟨h1, rfl, hst1⟩⟩
  · have hz := HG.out.1.but hb1 (by omega)
    have hf := hb1.heap HG.out.2.1 (by simp)
    refine leaves_cons (f := 81) (args := #[.pointer (some ⟨w.heap.size, 0, none⟩), .pointer (some ⟨w.heap.size + 1, 0, none⟩)]) (by simp) rfl ?_
    refine (catch_yes w.heap.size (w.heap.size + 1) zeroN (.bool false) _ [] _ hz hf (by omega)).mono ?_
    rintro e u' w2 ⟨rfl, rfl, rfl⟩
    simp only [settle]
    have hz2 := hz.put (v0 := .string ⟨#[]⟩) (v1 := .float .f64 0) (v2 := .string ⟨#[]⟩) (v3 := .slice none 0 0)
    refine ⟨_, read_res _ _ w.heap.size (w.heap.size + 1) _ _ _ _ _ rfl rfl ((set_other (by omega)).trans hz2.heap) (set_block ((putN_other (by omega)).trans hf) _), ?_⟩
    refine ⟨?_, .inl ⟨by rw [HP.out, if_pos ⟨h1, h2⟩], rfl⟩⟩
    exact (below_put (below_but HG.out.2.2.1 hb1 (by omega) (by have := HG.out.2.2.2; omega)) (Nat.le_refl _)).setCell (by simp) _
  · have H1 := Lib.hid (And.intro h1 (And.intro hb1 hst1))
    have HZ1 := Lib.hid (HG.out.1.but hb1 (by omega))
    have HF1 := Lib.hid (hb1.heap HG.out.2.1 (by simp))
    clear h1 hb1 hst1
    go_wp2_with (first | (go_at_call 83; fail))
    go_at_call 83
    refine (HOR.out _ H1.out.2.2).mono ?_
    rintro e w2 ⟨hb2, ⟨h2, rfl⟩ | ⟨t, ts', v, h2, rfl, hv, hst2⟩⟩
    · have hz := HZ1.out.but hb2 (by omega)
      have hf := hb2.heap HF1.out (by simp)
      refine leaves_cons (f := 81) (args := #[.pointer (some ⟨w.heap.size, 0, none⟩), .pointer (some ⟨w.heap.size + 1, 0, none⟩)]) (by simp) rfl ?_
      refine (catch_yes w.heap.size (w.heap.size + 1) zeroN (.bool false) _ [] _ hz hf (by omega)).mono ?_
      rintro e u' w3 ⟨rfl, rfl, rfl⟩
      simp only [settle]
      have hz2 := hz.put (v0 := .string ⟨#[]⟩) (v1 := .float .f64 0) (v2 := .string ⟨#[]⟩) (v3 := .slice none 0 0)
      refine ⟨_, read_res _ _ w.heap.size (w.heap.size + 1) _ _ _ _ _ rfl rfl ((set_other (by omega)).trans hz2.heap) (set_block ((putN_other (by omega)).trans hf) _), ?_⟩
      refine ⟨?_, .inl ⟨by rw [HP.out, if_neg H1.out.1, h2], rfl⟩⟩
      exact (below_put (below_but HG.out.2.2.1 (H1.out.2.1.trans hb2) (by omega) (by have := HG.out.2.2.2; omega)) (Nat.le_refl _)).setCell (by simp) _
    · have HZ2 := Lib.hid (HZ1.out.but hb2 (by omega))
      have HF2 := Lib.hid (hb2.heap HF1.out (by simp))
      have HB2 := Lib.hid (And.intro h2 (below_but HG.out.2.2.1 (H1.out.2.1.trans hb2) (by omega) (by have := HG.out.2.2.2; omega)))
      have HV2 := Lib.hid (hv.sub (B := fun b => w.heap.size ≤ b ∧ b ≠ w.heap.size ∧ b ≠ w.heap.size + 1) (fun b h _ => by have h1 := H1.out.2.1.size; have h2 := HG.out.2.2.2; have h3 : w1.heap.size ≤ b := h; show _ ∧ _ ∧ _; omega))
      obtain ⟨o1, n1, s1, x1, l1, c1, rfl⟩ := hv.agg
      obtain ⟨k, ⟨a, g, hrd⟩, hk⟩ : ∃ (k : Nat), (∃ a g, Rd w2 (w.heap.size + 2) l a k g) ∧ ((k = 0 ∧ ts' = []) ∨ (1 ≤ k ∧ ts' ≠ [])) := by
        obtain ⟨a, k, g, ha, hr, ⟨h1, h2, h3, _⟩ | ⟨t, rest, h1, h2, h3, h4, h5, h6⟩⟩ := hst2
        · exact ⟨k, ⟨a, g, hr⟩, .inl ⟨h2, h1⟩⟩
        · exact ⟨k, ⟨a, g, hr⟩, .inr ⟨h4, by rw [h1]; simp⟩⟩
      obtain ⟨_, _, rc2, _, _, _⟩ := hrd.cells
      obtain ⟨b0, b1, b2, b3, bf⟩ := HZ2.out.cells
      have f0 := bf 0
      have f1 := bf 1
      have f2 := bf 2
      have f3 := bf 3
      clear hb2 h2 hv hst2 bf hrd
      rcases hk with ⟨rfl, hts⟩ | ⟨k1, hts⟩
      · have HTS := Lib.hid hts
        clear hts
        have d0 : w2.cell? ⟨w.heap.size + 1, 0, none⟩ = some (.bool false) := by simp [World.cell?, HF2.out]
        have df : w2.frozen? ⟨w.heap.size + 1, 0, none⟩ = false := by simp [World.frozen?, HF2.out]
        go_wp2
        refine leaves_cons (f := 81) (args := #[.pointer (some ⟨w.heap.size, 0, none⟩), .pointer (some ⟨w.heap.size + 1, 0, none⟩)]) (by simp) rfl ?_
        refine (catch_no w.heap.size (w.heap.size + 1) _).mono ?_
        rintro e u' w3 ⟨rfl, rfl, rfl⟩
        simp only [Leaves, settle]
        have hz2 := (HZ2.out.put (v0 := .string o1) (v1 := .float .f64 n1) (v2 := .string s1) (v3 := .slice x1 l1 c1)).put (v0 := .string o1) (v1 := .float .f64 n1) (v2 := .string s1) (v3 := .slice x1 l1 c1)
        have hf2 : (putN (putN w2 w.heap.size (.string o1) (.float .f64 n1) (.string s1) (.slice x1 l1 c1)) w.heap.size (.string o1) (.float .f64 n1) (.string s1) (.slice x1 l1 c1)).heap[w.heap.size + 1]? = some (.cells #[.bool false] 4 (0, 0)) := (putN_other (by omega)).trans ((putN_other (by omega)).trans HF2.out)
        refine ⟨_, read_res _ _ w.heap.size (w.heap.size + 1) _ _ _ _ _ rfl rfl ((set_other (by omega)).trans hz2.heap) (set_block hf2 _), ?_⟩
        refine ⟨(below_put (below_put HB2.out.2 (Nat.le_refl _)) (Nat.le_refl _)).setCell (by simp) _, .inr ⟨t, _, by rw [HP.out, if_neg H1.out.1, HB2.out.1, HTS.out], rfl, ?_⟩⟩
        exact (NodeV.kept (by rw [putN_size, putN_size]; exact Nat.le_refl _) (fun b h1 _ => ⟨h1, (putN_other h1.2.1).trans (putN_other h1.2.1)⟩) t _ HV2.out).set _ _ (fun h => h.2.2 rfl) |>.sub (fun b h _ => h.1)
      · have HTS := Lib.hid hts
        have y : ((k : Int) != 0) = true := by simp; omega
        clear hts k1
        go_wp2
        refine leaves_cons (f := 81) (args := #[.pointer (some ⟨w.heap.size, 0, none⟩), .pointer (some ⟨w.heap.size + 1, 0, none⟩)]) (by simp) rfl ?_
        have hz := HZ2.out.put (v0 := .string o1) (v1 := .float .f64 n1) (v2 := .string s1) (v3 := .slice x1 l1 c1)
        have hf : (putN w2 w.heap.size (.string o1) (.float .f64 n1) (.string s1) (.slice x1 l1 c1)).heap[w.heap.size + 1]? = some (.cells #[.bool false] 4 (0, 0)) := (putN_other (by omega)).trans HF2.out
        refine (catch_yes w.heap.size (w.heap.size + 1) _ (.bool false) _ [] _ hz hf (by omega)).mono ?_
        rintro e u' w3 ⟨rfl, rfl, rfl⟩
        simp only [settle]
        have hz2 := hz.put (v0 := .string ⟨#[]⟩) (v1 := .float .f64 0) (v2 := .string ⟨#[]⟩) (v3 := .slice none 0 0)
        refine ⟨_, read_res _ _ w.heap.size (w.heap.size + 1) _ _ _ _ _ rfl rfl ((set_other (by omega)).trans hz2.heap) (set_block ((putN_other (by omega)).trans hf) _), ?_⟩
        refine ⟨(below_put (below_put HB2.out.2 (Nat.le_refl _)) (Nat.le_refl _)).setCell (by simp) _, .inl ⟨?_, rfl⟩⟩
        rw [HP.out, if_neg H1.out.1, HB2.out.1]
        cases hq : ts' with
        | nil => exact absurd hq HTS.out
        | cons _ _ => rfl
end Go.Proofs.YtdomglkcfecnnaaGreat
/- Walk: Depth. -/
namespace Go.Proofs.YtdomglkcfecnnaaGreat
open Go.RowKit Go.Shelf
attribute [local go_sem] run_store_float
mutual
def szT : Tree → Nat
  | .mk _ _ _ l => 1 + szL l
def szL : List Tree → Nat
  | [] => 0
  | t :: r => szT t + szL r
end
theorem szL_get (l : List Tree) (i : Nat) (h : i < l.length) : szT l[i] ≤ szL l := by
  induction l generalizing i with
  | nil => cases h
  | cons t r ih =>
    cases i with
    | zero => simp only [List.getElem_cons_zero, szL]; omega
    | succ i => simp only [List.getElem_cons_succ, szL]; have := ih i (by simpa using h); omega
theorem szT_pos (t : Tree) : 1 ≤ szT t := by cases t; simp only [szT]; omega
theorem len_szL (l : List Tree) : l.length ≤ szL l := by
  induction l with
  | nil => simp
  | cons t r ih => have := szT_pos t; simp only [List.length_cons, szL]; omega
mutual
theorem dep_sz : ∀ t : Tree, depT t ≤ szT t
  | .mk _ _ _ l => by have := depL_sz l; simp only [depT, szT]; omega
theorem depL_sz : ∀ l : List Tree, depL l ≤ szL l
  | [] => by simp [depL]
  | t :: r => by have := dep_sz t; have := depL_sz r; simp only [depL, szL]; omega
end
theorem depL_snoc (l : List Tree) (t : Tree) : depL (l ++ [t]) = max (depL l) (depT t) := by
  induction l with
  | nil => simp [depL]
  | cons a r ih => simp only [List.cons_append, depL, ih]; omega
theorem depL_get (l : List Tree) (i : Nat) (h : i < l.length) : depT l[i] ≤ depL l := by
  induction l generalizing i with
  | nil => cases h
  | cons t r ih =>
    cases i with
    | zero => simp only [List.getElem_cons_zero, depL]; omega
    | succ i => simp only [List.getElem_cons_succ, depL]; have := ih i (by simpa using h); omega
theorem depL_take (l : List Tree) (j : Nat) : depL (l.take j) ≤ depL l := by
  induction l generalizing j with
  | nil => simp
  | cons t r ih =>
    cases j with
    | zero => simp [depL]
    | succ j => simp only [List.take_succ_cons, depL]; have := ih j; omega
theorem NodesV.get {A : Nat → Prop} {w : World} {a : Addr} : ∀ (l : List Tree) (i : Nat), NodesV A w a i l → ∀ j, (h : j < l.length) → ∃ v0 v1 v2 v3, w.cell? (a.add ((i + j) * 4)) = some v0 ∧ w.cell? (a.add ((i + j) * 4 + 1)) = some v1 ∧ w.cell? (a.add ((i + j) * 4 + 2)) = some v2 ∧ w.cell? (a.add ((i + j) * 4 + 3)) = some v3 ∧ NodeV A w (.agg #[v0, v1, v2, v3]) l[j]
  | [], _, _, j, h => by cases h
  | t :: r, i, hn, j, h => by
    cases j with
    | zero => exact hn.1
    | succ j =>
      have := NodesV.get r (i + 1) hn.2 j (by simpa using h)
      rw [show i + (j + 1) = i + 1 + j by omega]
      exact this
theorem add_lit (a : Addr) (i k : Nat) (hk : k ≠ 0) : a.add (i + k) = ⟨(a.add i).block, (a.add i).off + k, none⟩ := by
  unfold Addr.add
  by_cases h : i = 0
  · subst h; simp [hk]
  · simp [h, hk]; omega
set_option maxRecDepth 100000 in
set_option maxHeartbeats 4000000 in
theorem wdepth : ∀ (n : Nat) (t : Tree), szT t ≤ n → ∀ (A : Nat → Prop) (v : Value) (w : World), szT t ≤ 1000000 → NodeV A w v t →
    Calls Tryz.prog 69 #[v] w fun e w' => e = .returned (.int .i64 (depT t)) ∧ Below w.heap.size w w' := by
  intro n
  induction n with
  | zero => intro t h; cases t; simp only [szT] at h; omega
  | succ n ih =>
    intro t hn A v w hd hv
    obtain ⟨op, fn, s, l⟩ := t
    have HV := Lib.hid hv
    obtain ⟨x, cap, rfl, hcap, hx, hch⟩ := hv
    have HIH := Lib.hid ih
    have HN := Lib.hid (show szL l ≤ n by simp only [szT] at hn; omega)
    have HD := Lib.hid (show 1 + szL l ≤ 1000000 by simpa only [szT] using hd)
    have hdd := Lib.hid (show depL l ≤ 1000000 by have := depL_sz l; have := HD.out; omega)
    have HC := Lib.hid hch
    have hll : l.length ≤ 1000000 := by have := len_szL l; have := HD.out; omega
    have HX := Lib.hid hx
    have hdt : depT (.mk op fn s l) = depL l + 1 := by simp only [depT]
    rw [hdt]
    obtain ⟨N, hN⟩ : ∃ N, N = l.length := ⟨_, rfl⟩
    rw [← hN] at hll hcap HV ⊢
    have HNL := Lib.hid hN
    clear hN hn hd hch hx ih hdt
    go_enter Tryz.func69, Tryz.ntmps69
    go_wp2_with fail
    go_loopg [3, 9] N (fun gh m i wr => ∃ j : Nat, j + gh = N ∧ i = .int .i64 j ∧ m = .int .i64 (depL (l.take j)) ∧ Hid (Below w.heap.size w wr))
    case atStart => exact ⟨0, by omega, rfl, rfl, Lib.hid ((Below.refl _ _).alloc (Nat.le_refl _) _)⟩
    case round =>
      obtain ⟨j, hj, rfl, rfl, HB⟩ := hrel
      by_cases q : j < N
      · have hjl : j < l.length := by have := HNL.out; omega
        obtain ⟨a, rfl⟩ : ∃ a, x = some a := by
          cases x with
          | none => have := HX.out rfl; rw [this] at hjl; cases hjl
          | some a => exact ⟨a, rfl⟩
        obtain ⟨v0, v1, v2, v3, e0, e1, e2, e3, hnode⟩ := NodesV.get l 0 (HC.out a rfl).2 j hjl
        rw [Nat.zero_add] at e0 e1 e2 e3
        have hab : a.block < w.heap.size := ((HC.out a rfl).1 (nil_not hjl)).2
        have hs : ∀ k, wr.heap[(a.add k).block]? = w.heap[(a.add k).block]? := fun k => by rw [add_block]; exact HB.out.block _ hab
        have d0 := cell_same (hs _) e0
        have d1 := cell_same (hs _) e1
        have d2 := cell_same (hs _) e2
        have d3 := cell_same (hs _) e3
        rw [add_lit _ _ _ (by decide)] at d1 d2 d3
        clear e0 e1 e2 e3 hs
        obtain ⟨o1, n1, s1, x1, l1, c1, hag⟩ := hnode.agg
        cases hag
        have HNODE := Lib.hid hnode
        clear hnode
        have HSN : Hid (depL (l.take (j + 1)) = max (depL (l.take j)) (depT l[j])) := Lib.hid (by rw [List.take_succ_eq_append_getElem hjl, depL_snoc])
        have HBD := Lib.hid (show depL (l.take j) ≤ 1000000 ∧ depL (l.take (j + 1)) ≤ 1000000 by have := depL_take l j; have := depL_take l (j + 1); have := hdd.out; omega)
        have HCH : Hid (∀ W, Below w.heap.size w W → Calls Tryz.prog 69 #[.agg #[.string o1, .float .f64 n1, .string s1, .slice x1 l1 c1]] W fun e w' => e = .returned (.int .i64 (depT l[j])) ∧ Below W.heap.size W w') := Lib.hid (fun W hW => by
          have h1 := szL_get l j hjl
          have h2 := HN.out
          have h3 := HD.out
          exact HIH.out l[j] (by omega) A _ W (by omega) (HNODE.out.below hW))
        obtain ⟨P1, hP1⟩ : ∃ P1, P1 = depL (l.take j) := ⟨_, rfl⟩
        obtain ⟨P2, hP2⟩ : ∃ P2, P2 = depL (l.take (j + 1)) := ⟨_, rfl⟩
        obtain ⟨P3, hP3⟩ : ∃ P3, P3 = depT l[j] := ⟨_, rfl⟩
        rw [← hP1, ← hP2] at HBD
        rw [← hP1, ← hP2, ← hP3] at HSN
        rw [← hP3] at HCH
        rw [← hP1]
        have HP2 := Lib.hid hP2
        have hmx : max (P1 : Int) (P3 : Int) = (P2 : Int) := by have := HSN.out; omega
        clear hP1 hP2 hP3
        go_wp2_with (first | (go_at_call 69; fail))
        refine (HCH.out _ (HB.out.alloc (HB.out.size) _)).mono ?_
        rintro e w2 ⟨rfl, hb2⟩
        have HB2 := Lib.hid (((HB.out.alloc (HB.out.size) (.cells #[.string o1, .float .f64 n1, .string s1, .slice x1 l1 c1] 119))).trans (below_le hb2 (by have := HB.out.size; simp; omega)))
        clear hb2 d0 d1 d2 d3
        go_wp2
        go_roundg (gk - 1)
        case measure => omega
        case rel => exact ⟨j + 1, by omega, by go_num, by rw [← HP2.out], HB2⟩
      · have e : j = l.length := by have := HNL.out; omega
        rw [show l.take j = l by rw [e, List.take_length]]
        have hd2 := hdd.out
        obtain ⟨D, hD⟩ : ∃ D, D = depL l := ⟨_, rfl⟩
        have HDV := Lib.hid hD
        rw [← hD] at hd2 ⊢
        clear e hD
        go_wp2
        go_ret
        exact ⟨by rw [← HDV.out]; rfl, HB.out⟩
end Go.Proofs.YtdomglkcfecnnaaGreat
/- Sizes of what is parsed; walk: Parse. -/
namespace Go.Proofs.YtdomglkcfecnnaaGreat
open Go.RowKit Go.Shelf
attribute [local go_sem] run_store_float
def Mode.sz : Mode → Nat
  | .orT t | .andT t | .sumT t | .prodT t => szT t
  | _ => 0
theorem sz_two (op : Bs) (a b : Tree) : szT (two op a b) = 1 + szT a + szT b := by simp [two, szT, szL]; omega
theorem sz_one (op : Bs) (a : Tree) : szT (one op a) = 1 + szT a := by simp [one, szT, szL]
theorem sz_leaf (op s : Bs) (n : Nat) : szT (.mk op n s []) = 1 := by simp [szT, szL]
def SzC (R : List Tok → Option (Tree × List Tok)) : Prop := ∀ ts a r, R ts = some (a, r) → szT a + r.length ≤ ts.length
theorem inside_sz {ok : Bool} {R : List Tok → Option (Tree × List Tok)} {ts r : List Tok} {a : Tree} (hR : SzC R) (h : inside ok R ts = some (a, r)) : szT a + r.length + 2 ≤ ts.length := by
  unfold inside at h
  split at h
  · cases h
  · rename_i t1 h1
    split at h
    · cases h
    · rename_i a2 t2 h2
      split at h
      · cases h
      · rename_i t3 h3
        cases h
        have := must_len h1
        have := hR _ _ _ h2
        have := must_len h3
        omega
theorem hasP_sz {ok : Bool} {R : List Tok → Option (Tree × List Tok)} {ts r : List Tok} {a : Tree} (hR : SzC R) (h : hasP ok R ts = some (a, r)) : szT a + r.length + 2 ≤ ts.length := by
  unfold hasP at h
  split at h
  · cases h
  · rename_i t1 h1
    split at h
    · cases h
    · rename_i a2 t2 h2
      split at h
      · cases h
      · rename_i t3 h3
        split at h
        · cases h
        · rename_i b t4 h4
          split at h
          · cases h
          · rename_i t5 h5
            cases h
            have := must_len h1
            have := hR _ _ _ h2
            have := must_len h3
            have := hR _ _ _ h4
            have := must_len h5
            rw [sz_two]
            omega
theorem P_sz (V : Bs → Nat) (ok : Bool) : ∀ (n : Nat) (m : Mode) (ts : List Tok) (a : Tree) (r : List Tok), P V ok n m ts = some (a, r) → szT a + r.length ≤ ts.length + m.sz := by
  intro n
  induction n with
  | zero => intro m ts a r h; cases h
  | succ n ih =>
    have chain : ∀ (m1 : Mode) (m2 : Tree → Mode) (ts r : List Tok) (a : Tree), m1.sz = 0 → (∀ t, (m2 t).sz = szT t) → (match P V ok n m1 ts with | none => none | some (a, r) => P V ok n (m2 a) r) = some (a, r) → szT a + r.length ≤ ts.length := by
      intro m1 m2 ts r a hm hm2 h
      split at h
      · cases h
      · rename_i b t1 h1
        have g := ih _ _ _ _ h1
        have g2 := ih _ _ _ _ h
        rw [hm2] at g2
        omega
    have tailr : ∀ (c : Prop) [Decidable c] (m1 : Mode) (m2 : Tree → Mode) (ts r : List Tok) (a x : Tree), m1.sz = 0 → (∀ t, (m2 t).sz = 1 + szT x + szT t) → (if c then (match adv ok ts with | none => none | some t1 => match P V ok n m1 t1 with | none => none | some (b, r) => P V ok n (m2 b) r) else some (x, ts)) = some (a, r) → szT a + r.length ≤ ts.length + szT x := by
      intro c _ m1 m2 ts r a x hm hm2 h
      split at h
      · split at h
        · cases h
        · rename_i t1 h1
          split at h
          · cases h
          · rename_i b t2 h2
            have g0 := adv_len h1
            have g := ih _ _ _ _ h2
            have g2 := ih _ _ _ _ h
            rw [hm2] at g2
            omega
      · cases h; omega
    have hor : SzC (P V ok n .or) := fun ts a r h => ih _ _ _ _ h
    intro m ts a r h
    cases m with
    | or => exact chain .and Mode.orT ts r a rfl (fun _ => rfl) (by have h' := h; simp only [P] at h'; exact h')
    | and => exact chain .not Mode.andT ts r a rfl (fun _ => rfl) (by have h' := h; simp only [P] at h'; exact h')
    | sum => exact chain .prod Mode.sumT ts r a rfl (fun _ => rfl) (by have h' := h; simp only [P] at h'; exact h')
    | prod => exact chain .signed Mode.prodT ts r a rfl (fun _ => rfl) (by have h' := h; simp only [P] at h'; exact h')
    | orT x => exact tailr _ .and (fun b => Mode.orT (two wor x b)) ts r a x rfl (fun t => by simp only [Mode.sz]; exact sz_two _ _ _) (by have h' := h; simp only [P] at h'; exact h')
    | andT x => exact tailr _ .not (fun b => Mode.andT (two wand x b)) ts r a x rfl (fun t => by simp only [Mode.sz]; exact sz_two _ _ _) (by have h' := h; simp only [P] at h'; exact h')
    | sumT x => exact tailr _ .prod (fun b => Mode.sumT (two ((ts.headD ⟨0, []⟩).s) x b)) ts r a x rfl (fun t => by simp only [Mode.sz]; exact sz_two _ _ _) (by have h' := h; simp only [P] at h'; exact h')
    | prodT x => exact tailr _ .signed (fun b => Mode.prodT (two ((ts.headD ⟨0, []⟩).s) x b)) ts r a x rfl (fun t => by simp only [Mode.sz]; exact sz_two _ _ _) (by have h' := h; simp only [P] at h'; exact h')
    | not =>
      simp only [P] at h
      split at h
      · split at h
        · cases h
        · rename_i t1 h1
          split at h
          · cases h
          · rename_i b t2 h2
            cases h
            have g0 := adv_len h1
            have g := ih _ _ _ _ h2
            rw [sz_one]
            simp only [Mode.sz] at g ⊢
            omega
      · split at h
        · cases h
        · rename_i b t2 h2
          have g2 := ih _ _ _ _ h2
          simp only [Mode.sz] at g2 ⊢
          split at h
          · cases h; exact g2
          · split at h
            · split at h
              · cases h
              · rename_i t3 h3
                split at h
                · cases h
                · rename_i c t4 h4
                  cases h
                  have g0 := adv_len h3
                  have g := ih _ _ _ _ h4
                  simp only [Mode.sz] at g
                  rw [sz_two]
                  omega
            · cases h; exact g2
    | signed =>
      simp only [P] at h
      split at h
      · split at h
        · cases h
        · rename_i t1 h1
          split at h
          · cases h
          · rename_i b t2 h2
            cases h
            have g0 := adv_len h1
            have g := ih _ _ _ _ h2
            simp only [Mode.sz] at g ⊢
            rw [sz_one]
            omega
      · have g := ih _ _ _ _ h
        exact g
    | atom =>
      cases ts with
      | nil => simp only [P] at h; cases h
      | cons t ts =>
        rw [P_atom] at h
        simp only [Mode.sz]
        split at h
        · split at h
          · cases h
          · rename_i t1 h1
            cases h
            have g0 := adv_len h1
            rw [sz_leaf]
            omega
        · split at h
          · split at h
            · cases h
            · rename_i t1 h1
              cases h
              have g0 := adv_len h1
              rw [sz_leaf]
              omega
          · split at h
            · unfold namedP at h
              split at h
              · cases h
              · split at h
                · cases h
                · rename_i t1 h1
                  have g0 := adv_len h1
                  split at h
                  · split at h
                    · cases h
                    · rename_i b t2 h2
                      cases h
                      have g := inside_sz hor h2
                      rw [sz_one]
                      omega
                  · split at h
                    · have g := hasP_sz hor h
                      omega
                    · cases h
                      rw [sz_leaf]
                      omega
            · have g := inside_sz hor h
              omega
theorem lexF_len : ∀ (n : Nat) (l : Bs), (lexF n l).1.length ≤ l.length
  | 0, _ => by simp [lexF]
  | n + 1, l => by
    simp only [lexF]
    split
    · simp
    · cases hq : lex1 (l.drop (cntBl l)) with
      | none => simp
      | some x =>
        obtain ⟨t, k⟩ := x
        have h3 := lex1_len hq
        have h4 := lexF_len n ((l.drop (cntBl l)).drop k)
        simp at h3 h4 ⊢
        omega
theorem readP_sz {l : Bs} {t : Tree} (h : readP l = some t) : szT t ≤ l.length := by
  unfold readP at h
  split at h
  · cases h
  · split at h
    · rename_i t2 h2
      cases h
      have g := P_sz _ _ _ _ _ _ _ h2
      have g2 := lexF_len (l.length + 1) l
      simp only [Mode.sz, List.length_nil] at g
      unfold lex at g
      omega
    · cases h
def zeroT : Tree := .mk [] 0 [] []
/-- What parsing a text gives: a tree, and why not. -/
def parseP (l : Bs) : Tree × Nat :=
  if 256 < l.length then (zeroT, 2) else match readP l with
  | none => (zeroT, 190)
  | some t => if 16 < depT t then (zeroT, 190) else (t, 0)
def ParseEnd (l : Bs) (w : World) (e : Ending) (w' : World) : Prop :=
  ∃ v, e = .returned (.tuple #[v, .int .i64 ((parseP l).2 : Nat)]) ∧ NodeV (fun b => w.heap.size ≤ b) w' v (parseP l).1 ∧ Below w.heap.size w w'
set_option maxRecDepth 100000 in
set_option maxHeartbeats 4000000 in
theorem wparse (l : Bs) (hl : l.length ≤ 1000000) (w : World) : Calls Tryz.prog 52 #[.string (tx l)] w (ParseEnd l w) := by
  have HS := Lib.hid (tx_size' l)
  have HRD := Lib.hid (fun W => wread l hl W)
  have HL := Lib.hid hl
  obtain ⟨pr, hpr⟩ : ∃ x, x = parseP l := ⟨_, rfl⟩
  have HP := Lib.hid hpr
  unfold parseP at HP
  by_cases q : 256 < l.length
  · have q2 : 256 < ((tx l).size : Int) := by have := HS.out; omega
    rw [if_pos q] at HP
    have HE : Hid (∀ e w', (∃ v, e = .returned (.tuple #[v, .int .i64 (2 : Nat)]) ∧ NodeV (fun b => w.heap.size ≤ b) w' v zeroT ∧ Below w.heap.size w w') → ParseEnd l w e w') := Lib.hid (fun e w' h => by
      unfold ParseEnd; rw [← hpr, HP.out]; exact h)
    clear hpr q hl
    go_enter Tryz.func52, Tryz.ntmps52
    go_wp2
    refine bodyPost_ret (results_cell_tmp rfl _ _ w.heap.size 119 _ _ _ rfl (heap_alloc_new w _) Tryz.underlying119 rfl (by kernel_rfl)) rfl (HE.out _ _ ?_)
    exact ⟨_, rfl, NodeV.zero _ _, (Below.refl _ _).alloc (Nat.le_refl _) _⟩
  · have q2 : ¬ 256 < ((tx l).size : Int) := by have := HS.out; omega
    rw [if_neg q] at HP
    have HSZ : Hid (∀ t, readP l = some t → szT t ≤ 1000000 ∧ depT t ≤ 1000000) := Lib.hid (fun t h => by
      have h1 := readP_sz h
      have h2 := dep_sz t
      have h3 := HL.out
      omega)
    clear q hl
    go_enter Tryz.func52, Tryz.ntmps52
    go_wp2_with (first | (go_at_call 68; fail))
    go_at_call 68
    refine (HRD.out _).mono ?_
    rintro e w2 ⟨hb2, ⟨h1, rfl⟩ | ⟨t, v, h1, rfl, hv⟩⟩
    · have HE : Hid (∀ e w', (∃ v, e = .returned (.tuple #[v, .int .i64 (190 : Nat)]) ∧ NodeV (fun b => w.heap.size ≤ b) w' v zeroT ∧ Below w.heap.size w w') → ParseEnd l w e w') := Lib.hid (fun e w' h => by
        unfold ParseEnd; rw [← hpr, HP.out, h1]; exact h)
      have HB := Lib.hid hb2
      have HZ : Hid (NB w2 w.heap.size zeroN) := Lib.hid ((show NB (w.alloc (.cells #[.string ⟨#[]⟩, .float .f64 0, .string ⟨#[]⟩, .slice none 0 0] 119)) w.heap.size zeroN from ⟨_, _, _, _, rfl, heap_alloc_new _ _⟩).below hb2)
      obtain ⟨b0, b1, b2, b3, bf⟩ := HZ.out.cells
      have f0 := bf 0
      have f1 := bf 1
      have f2 := bf 2
      have f3 := bf 3
      have hlt := HZ.out.lt
      clear bf hb2 h1 hpr HP
      go_wp2
      have hz2 := HZ.out.put (v0 := .string ⟨#[]⟩) (v1 := .float .f64 0) (v2 := .string ⟨#[]⟩) (v3 := .slice none 0 0)
      refine bodyPost_ret (results_cell_tmp rfl _ _ w.heap.size 119 _ _ _ rfl ((heap_alloc_old _ _ (by simpa using hlt)).trans hz2.heap) Tryz.underlying119 rfl (by kernel_rfl)) rfl (HE.out _ _ ?_)
      have hbw : Below w.heap.size w w2 := ((Below.refl _ _).alloc (Nat.le_refl _) _).trans (below_le HB.out (by simp))
      exact ⟨_, rfl, NodeV.zero _ _, (below_put hbw (Nat.le_refl _)).alloc (by have := hbw.size; rw [putN_size]; exact this) _⟩
    · have HB := Lib.hid hb2
      have HZ : Hid (NB w2 w.heap.size zeroN) := Lib.hid ((show NB (w.alloc (.cells #[.string ⟨#[]⟩, .float .f64 0, .string ⟨#[]⟩, .slice none 0 0] 119)) w.heap.size zeroN from ⟨_, _, _, _, rfl, heap_alloc_new _ _⟩).below hb2)
      have HV := Lib.hid (hv.sub (B := fun b => w.heap.size ≤ b ∧ b ≠ w.heap.size) (fun b h _ => by have h3 : (w.alloc (.cells #[.string ⟨#[]⟩, .float .f64 0, .string ⟨#[]⟩, .slice none 0 0] 119)).heap.size ≤ b := h; simp at h3; show _ ∧ _; omega))
      obtain ⟨o1, n1, s1, x1, l1, c1, rfl⟩ := hv.agg
      have HSZ2 := Lib.hid (HSZ.out t h1)
      have HDP : Hid (∀ W, NodeV (fun b => w.heap.size ≤ b ∧ b ≠ w.heap.size) W (.agg #[.string o1, .float .f64 n1, .string s1, .slice x1 l1 c1]) t → Calls Tryz.prog 69 #[.agg #[.string o1, .float .f64 n1, .string s1, .slice x1 l1 c1]] W fun e w' => e = .returned (.int .i64 (depT t)) ∧ Below W.heap.size W w') :=
        Lib.hid (fun W h => wdepth _ t (Nat.le_refl _) _ _ W HSZ2.out.1 h)
      have HP2 : Hid (pr = if 16 < depT t then (zeroT, 190) else (t, 0)) := Lib.hid (by rw [HP.out, h1])
      obtain ⟨D, hD⟩ : ∃ D, D = depT t := ⟨_, rfl⟩
      rw [← hD] at HDP HP2 HSZ2
      have hdl : D ≤ 1000000 := HSZ2.out.2
      have HPR := Lib.hid hpr
      have hlt := HZ.out.lt
      clear hb2 h1 hpr HP hv hD
      go_wp2_with (first | (go_at_call 69; fail))
      refine (HDP.out _ (HV.out.below ((Below.refl _ _).alloc (Nat.le_refl _) _))).mono ?_
      rintro e w5 ⟨rfl, hb5⟩
      have HB5 : Hid (Below w2.heap.size w2 w5) := Lib.hid (((Below.refl _ _).alloc (Nat.le_refl _) (.cells #[.string o1, .float .f64 n1, .string s1, .slice x1 l1 c1] 119)).trans (below_le hb5 (by simp)))
      have HG5 : Hid (NB w5 w2.heap.size (.agg #[.string o1, .float .f64 n1, .string s1, .slice x1 l1 c1])) := Lib.hid ((show NB (w2.alloc (.cells #[.string o1, .float .f64 n1, .string s1, .slice x1 l1 c1] 119)) w2.heap.size _ from ⟨_, _, _, _, rfl, heap_alloc_new _ _⟩).below hb5)
      have HZ5 := Lib.hid (HZ.out.below HB5.out)
      have HV5 := Lib.hid (HV.out.below HB5.out)
      obtain ⟨b0, b1, b2, b3, bf⟩ := HZ5.out.cells
      obtain ⟨a0, a1, a2, a3, _⟩ := HG5.out.cells
      have f0 := bf 0
      have f1 := bf 1
      have f2 := bf 2
      have f3 := bf 3
      clear bf hb5 hlt
      have hbw : Hid (Below w.heap.size w w5) := Lib.hid ((((Below.refl _ _).alloc (Nat.le_refl _) _).trans (below_le HB.out (by simp))).trans (below_le HB5.out (by have := HB.out.size; simp at this; omega)))
      by_cases q16 : 16 < D
      · have HE : Hid (∀ e w', (∃ v, e = .returned (.tuple #[v, .int .i64 (190 : Nat)]) ∧ NodeV (fun b => w.heap.size ≤ b) w' v zeroT ∧ Below w.heap.size w w') → ParseEnd l w e w') := Lib.hid (fun e w' h => by
          unfold ParseEnd; rw [← HPR.out, HP2.out, if_pos q16]; exact h)
        go_wp2
        have hz2 := HZ5.out.put (v0 := .string ⟨#[]⟩) (v1 := .float .f64 0) (v2 := .string ⟨#[]⟩) (v3 := .slice none 0 0)
        refine bodyPost_ret (results_cell_tmp rfl _ _ w.heap.size 119 _ _ _ rfl hz2.heap Tryz.underlying119 rfl (by kernel_rfl)) rfl (HE.out _ _ ?_)
        exact ⟨_, rfl, NodeV.zero _ _, below_put hbw.out (Nat.le_refl _)⟩
      · have HE : Hid (∀ e w', (∃ v, e = .returned (.tuple #[v, .int .i64 (0 : Nat)]) ∧ NodeV (fun b => w.heap.size ≤ b) w' v t ∧ Below w.heap.size w w') → ParseEnd l w e w') := Lib.hid (fun e w' h => by
          unfold ParseEnd; rw [← HPR.out, HP2.out, if_neg q16]; exact h)
        go_wp2
        have hz2 := HZ5.out.put (v0 := .string o1) (v1 := .float .f64 n1) (v2 := .string s1) (v3 := .slice x1 l1 c1)
        refine bodyPost_ret (results_cell_tmp rfl _ _ w.heap.size 119 _ _ _ rfl hz2.heap Tryz.underlying119 rfl (by kernel_rfl)) rfl (HE.out _ _ ?_)
        exact ⟨_, rfl, NodeV.kept (by rw [putN_size]; exact Nat.le_refl _) (fun b h1 _ => ⟨h1.1, putN_other h1.2⟩) t _ HV5.out, below_put hbw.out (Nat.le_refl _)⟩
end Go.Proofs.YtdomglkcfecnnaaGreat
