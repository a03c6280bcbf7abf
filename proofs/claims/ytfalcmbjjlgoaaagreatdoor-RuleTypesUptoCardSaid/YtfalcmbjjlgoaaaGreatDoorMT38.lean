/- Own texts, merged: QJ, QK, QL, S7, RK, S8, V5. -/
import Derived.Defers
import Derived.Recover
import Derived.Tactics2
import Derived.Laws.Pointers
import Derived.Test.YtfalcmbjjlgoaaaGreatDoorMT19
import Derived.Test.YtfalcmbjjlgoaaaGreatDoorMT32
import Derived.Test.YtfalcmbjjlgoaaaGreatDoorQI
/- Walk: read. -/
namespace Go.Proofs.YtfalcmbjjlgoaaaGreatDoor
open Go.RowKit Go.Shelf
attribute [local go_sem] run_store_float
/-- What reading a whole text gives. -/
def readP (l : Bs) : Option Tree :=
  if (lex l).1 = [] ∧ (lex l).2 = false then none
  else match P valV (lex l).2 (12 * (lex l).1.length + 11) .or (lex l).1 with
  | some (t, []) => some t
  | _ => none
abbrev zeroN : Value := .agg #[.string ⟨#[]⟩, .float .f64 0, .string ⟨#[]⟩, .slice none 0 0]
set_option maxRecDepth 100000 in
theorem catch_yes (g h : Nat) (z b : Value) (pv : Value) (older : List PanicEntry) (w : World) (hg : NB w g z) (hb : w.heap[h]? = some (.cells #[b] 4 (0, 0))) (hgh : g ≠ h) :
    CallsD Tryz.prog 36 #[.pointer (some ⟨g, 0, none⟩), .pointer (some ⟨h, 0, none⟩)] (.panicking ({ v := .iface 69 pv, recovered := false } :: older)) w fun e u' w' =>
      e = .returned (.tuple #[]) ∧ u' = .panicking ({ v := .iface 69 pv, recovered := true } :: older) ∧ w' = (putN w g (.string ⟨#[]⟩) (.float .f64 0) (.string ⟨#[]⟩) (.slice none 0 0)).setCell ⟨h, 0, none⟩ (.bool false) := by
  refine callsD_of_wpS Tryz.func36 rfl fun c₀ cs hu => ?_
  apply wpS_seq
  apply wpS_region
  simp [wpOpsS, go_sem, recoverD, hu, Tryz.ntmps36, Exit.thenS]
  refine wpS_cond (t := true) (by simp [Act.eval, Array.replicate]) ?_
  simp only [if_true]
  apply wpS_region
  obtain ⟨v0, v1, v2, v3, rfl, hh⟩ := hg
  obtain ⟨c0, c1, c2, c3, cf⟩ := NB.cells (v0 := v0) (v1 := v1) (v2 := v2) (v3 := v3) ⟨_, _, _, _, rfl, hh⟩
  have d0 : w.cell? ⟨h, 0, none⟩ = some b := by simp [World.cell?, hb]
  have df : w.frozen? ⟨h, 0, none⟩ = false := by simp [World.frozen?, hb]
  have hgh2 : h ≠ g := fun e => hgh e.symm
  simp [wpOpsS, go_sem, c0, c1, c2, c3, cf, d0, df, bodyPostS, results, Tryz.results36]
  rfl
theorem catch_no (g h : Nat) (w : World) :
    CallsD Tryz.prog 36 #[.pointer (some ⟨g, 0, none⟩), .pointer (some ⟨h, 0, none⟩)] .returning w fun e u' w' => e = .returned (.tuple #[]) ∧ u' = .returning ∧ w' = w := by
  refine callsD_of_wpS Tryz.func36 rfl fun c₀ cs hu => ?_
  apply wpS_seq
  apply wpS_region
  simp [wpOpsS, go_sem, recoverD, hu, Tryz.ntmps36, Exit.thenS]
  refine wpS_cond (t := false) (by simp [Act.eval, Array.replicate]) ?_
  simp only [Bool.false_eq_true, if_false]
  refine wpS_of_wp (wp_skip ?_)
  cases c₀
  simp_all [bodyPostS, results, Tryz.results36]
theorem alloc_new1 (w : World) (o1 o2 : Obj) : ((w.alloc o1).alloc o2).heap[w.heap.size + 1]? = some o2 := by
  have h := heap_alloc_new (w.alloc o1) o2
  rwa [show (w.alloc o1).heap.size = w.heap.size + 1 by simp] at h
theorem alloc_new2 (w : World) (o1 o2 o3 : Obj) : (((w.alloc o1).alloc o2).alloc o3).heap[w.heap.size + 2]? = some o3 := by
  have h := heap_alloc_new ((w.alloc o1).alloc o2) o3
  rwa [show ((w.alloc o1).alloc o2).heap.size = w.heap.size + 2 by simp] at h
theorem read_res (tmps : Array Value) (w : World) (g h : Nat) (v0 v1 v2 v3 b : Value) (hp : tmps.getD 2 undef = .pointer (some ⟨g, 0, none⟩)) (hq : tmps.getD 3 undef = .pointer (some ⟨h, 0, none⟩))
    (hg : w.heap[g]? = some (.cells #[v0, v1, v2, v3] 25 (0, 0))) (hb : w.heap[h]? = some (.cells #[b] 4 (0, 0))) : (results Tryz.f21 tmps).run Tryz.prog w = .ok (.tuple #[.agg #[v0, v1, v2, v3], b]) w := by
  have hp' : tmps[2]?.getD undef = .pointer (some ⟨g, 0, none⟩) := by simpa using hp
  have hq' : tmps[3]?.getD undef = .pointer (some ⟨h, 0, none⟩) := by simpa using hq
  have d0 : w.cell? ⟨h, 0, none⟩ = some b := by simp [World.cell?, hb]
  have hl := run_loadVar_row (P := Tryz.prog) w g 25 25 #[v0, v1, v2, v3] (0, 0) _ hg Tryz.underlying25 rfl (by kernel_rfl)
  have hl2 : (loadVar 4 ⟨h, 0, none⟩).run Tryz.prog w = .ok b w := by simp [go_sem, d0]
  simp [results, Tryz.results21, hp', hq', asAddr, hl, hl2]
theorem below_but {n r : Nat} {w a b : World} (h : Below n w a) (k : But [r] a b) (hr : n ≤ r) (hn : n ≤ a.heap.size) : Below n w b :=
  ⟨k.os.trans h.os, k.tape.trans h.tape, k.output.trans h.output, Nat.le_trans h.size k.size, fun j hj => (k.block j (by omega) (by simp; omega)).trans (h.block j hj)⟩
theorem below_put {n g : Nat} {w a : World} {v0 v1 v2 v3 : Value} (h : Below n w a) (hg : n ≤ g) : Below n w (putN a g v0 v1 v2 v3) :=
  (((h.setCell (show n ≤ (⟨g, 0, none⟩ : Addr).block from hg) v0).setCell (show n ≤ (⟨g, 1, none⟩ : Addr).block from hg) v1).setCell (show n ≤ (⟨g, 2, none⟩ : Addr).block from hg) v2).setCell (show n ≤ (⟨g, 3, none⟩ : Addr).block from hg) v3
/-- What read ends in. -/
def ReadEnd (l : Bs) (w : World) (e : Ending) (w' : World) : Prop := Below w.heap.size w w' ∧
  ((readP l = none ∧ e = .returned (.tuple #[zeroN, .bool false])) ∨ ∃ t v, readP l = some t ∧ e = .returned (.tuple #[v, .bool true]) ∧ NodeV (fun b => w.heap.size ≤ b) w' v t)
/-- Before the reading begins. -/
def readW (l : Bs) (w : World) : World := ((w.alloc (.cells #[.string ⟨#[]⟩, .float .f64 0, .string ⟨#[]⟩, .slice none 0 0] 25)).alloc (.cells #[.bool false] 4)).alloc (.cells #[.string (tx l), .int .i64 0, .int .i64 0, .string ⟨#[]⟩] 66)
set_option maxRecDepth 100000 in
set_option maxHeartbeats 4000000 in
theorem wread (l : Bs) (hl : l.length ≤ 1000000) (w : World) : Calls Tryz.prog 21 #[.string (tx l)] w (ReadEnd l w) := by
  have hmf : ∀ (fn : Fn) (first cap : Array Value) (w : World), (Instr.makeFunc fn first cap).run Tryz.prog w = .ok (.func fn first cap) w := fun _ _ _ _ => rfl
  have HR : Hid (Rd (readW l w) (w.heap.size + 2) l 0 0 []) := Lib.hid (alloc_new2 w _ _ _)
  have HNX : Hid (Calls Tryz.prog 37 #[.pointer (some ⟨w.heap.size + 2, 0, none⟩)] (readW l w) fun e w' => But [w.heap.size + 2] (readW l w) w' ∧ (((lex l).1 = [] ∧ (lex l).2 = false ∧ Pan e) ∨ (¬ ((lex l).1 = [] ∧ (lex l).2 = false) ∧ e = .returned (.tuple #[]) ∧ St (w.heap.size + 2) l (lex l).2 (lex l).1 w'))) :=
    Lib.hid (wqstep (w.heap.size + 2) l (lex l).2 (lex l).1 0 0 [] hl (Nat.zero_le _) (readW l w) HR.out (by simp))
  have HL := Lib.hid hl
  have HP : Hid (readP l = if (lex l).1 = [] ∧ (lex l).2 = false then none
      else match P valV (lex l).2 (12 * (lex l).1.length + 11) .or (lex l).1 with
      | some (t, []) => some t
      | _ => none) := Lib.hid rfl
  have HOR := Lib.hid (fun W h => wreadOr l (lex l).2 hl (12 * (lex l).1.length + 11) (w.heap.size + 2) (lex l).1 W (Nat.le_refl _) h)
  have HG : Hid (NB (readW l w) w.heap.size zeroN ∧ (readW l w).heap[w.heap.size + 1]? = some (.cells #[.bool false] 4 (0, 0)) ∧ Below w.heap.size w (readW l w) ∧ (readW l w).heap.size = w.heap.size + 3) := Lib.hid (by
    refine ⟨⟨_, _, _, _, rfl, ?_⟩, ?_, ?_, by simp [readW]⟩
    · unfold readW
      rw [heap_alloc_old _ _ (by simp; omega), heap_alloc_old _ _ (by simp)]
      exact heap_alloc_new _ _
    · unfold readW
      rw [heap_alloc_old _ _ (by simp)]
      exact alloc_new1 w _ _
    · exact (((Below.refl _ _).alloc (Nat.le_refl _) _).alloc (by simp) _).alloc (by simp; omega) _)
  unfold readW at HNX HG
  clear hl HR
  go_enter_defers Tryz.func21, Tryz.ntmps21
  go_wp2_with (first | (go_at_call 37; fail))
  refine (HNX.out).mono ?_
  rintro e w1 ⟨hb1, ⟨h1, h2, rfl⟩ | ⟨h1, rfl, hst1⟩⟩
  · have hz := HG.out.1.but hb1 (by omega)
    have hf := hb1.heap HG.out.2.1 (by simp)
    refine leaves_cons (f := 36) (args := #[.pointer (some ⟨w.heap.size, 0, none⟩), .pointer (some ⟨w.heap.size + 1, 0, none⟩)]) (by simp) rfl ?_
    refine (catch_yes w.heap.size (w.heap.size + 1) zeroN (.bool false) _ [] _ hz hf (by omega)).mono ?_
    rintro e u' w2 ⟨rfl, rfl, rfl⟩
    simp only [settle]
    have hz2 := hz.put (v0 := .string ⟨#[]⟩) (v1 := .float .f64 0) (v2 := .string ⟨#[]⟩) (v3 := .slice none 0 0)
    refine ⟨_, read_res _ _ w.heap.size (w.heap.size + 1) _ _ _ _ _ rfl rfl ((set_other (by omega)).trans hz2.heap) (set_block ((putN_other (by omega)).trans hf) _), ?_⟩
    refine ⟨?_, .inl ⟨by rw [HP.out, if_pos ⟨h1, h2⟩], rfl⟩⟩
    exact (below_put (below_but HG.out.2.2.1 hb1 (by omega) (by have := HG.out.2.2.2; omega)) (Nat.le_refl _)).setCell (by simp) _
  · have H1 := Lib.hid (And.intro h1 (And.intro hb1 hst1))
    have HZ1 := Lib.hid (HG.out.1.but hb1 (by omega))
    have HF1 := Lib.hid (hb1.heap HG.out.2.1 (by simp))
    clear h1 hb1 hst1
    go_wp2_with (first | (go_at_call 38; fail))
    go_at_call 38
    refine (HOR.out _ H1.out.2.2).mono ?_
    rintro e w2 ⟨hb2, ⟨h2, rfl⟩ | ⟨t, ts', v, h2, rfl, hv, hst2⟩⟩
    · have hz := HZ1.out.but hb2 (by omega)
      have hf := hb2.heap HF1.out (by simp)
      refine leaves_cons (f := 36) (args := #[.pointer (some ⟨w.heap.size, 0, none⟩), .pointer (some ⟨w.heap.size + 1, 0, none⟩)]) (by simp) rfl ?_
      refine (catch_yes w.heap.size (w.heap.size + 1) zeroN (.bool false) _ [] _ hz hf (by omega)).mono ?_
      rintro e u' w3 ⟨rfl, rfl, rfl⟩
      simp only [settle]
      have hz2 := hz.put (v0 := .string ⟨#[]⟩) (v1 := .float .f64 0) (v2 := .string ⟨#[]⟩) (v3 := .slice none 0 0)
      refine ⟨_, read_res _ _ w.heap.size (w.heap.size + 1) _ _ _ _ _ rfl rfl ((set_other (by omega)).trans hz2.heap) (set_block ((putN_other (by omega)).trans hf) _), ?_⟩
      refine ⟨?_, .inl ⟨by rw [HP.out, if_neg H1.out.1, h2], rfl⟩⟩
      exact (below_put (below_but HG.out.2.2.1 (H1.out.2.1.trans hb2) (by omega) (by have := HG.out.2.2.2; omega)) (Nat.le_refl _)).setCell (by simp) _
    · have HZ2 := Lib.hid (HZ1.out.but hb2 (by omega))
      have HF2 := Lib.hid (hb2.heap HF1.out (by simp))
      have HB2 := Lib.hid (And.intro h2 (below_but HG.out.2.2.1 (H1.out.2.1.trans hb2) (by omega) (by have := HG.out.2.2.2; omega)))
      have HV2 := Lib.hid (hv.sub (B := fun b => w.heap.size ≤ b ∧ b ≠ w.heap.size ∧ b ≠ w.heap.size + 1) (fun b h _ => by have h1 := H1.out.2.1.size; have h2 := HG.out.2.2.2; have h3 : w1.heap.size ≤ b := h; show _ ∧ _ ∧ _; omega))
      obtain ⟨o1, n1, s1, x1, l1, c1, rfl⟩ := hv.agg
      obtain ⟨k, ⟨a, g, hrd⟩, hk⟩ : ∃ (k : Nat), (∃ a g, Rd w2 (w.heap.size + 2) l a k g) ∧ ((k = 0 ∧ ts' = []) ∨ (1 ≤ k ∧ ts' ≠ [])) := by
        obtain ⟨a, k, g, ha, hr, ⟨h1, h2, h3, _⟩ | ⟨t, rest, h1, h2, h3, h4, h5, h6⟩⟩ := hst2
        · exact ⟨k, ⟨a, g, hr⟩, .inl ⟨h2, h1⟩⟩
        · exact ⟨k, ⟨a, g, hr⟩, .inr ⟨h4, by rw [h1]; simp⟩⟩
      obtain ⟨_, _, rc2, _, _, _⟩ := hrd.cells
      obtain ⟨b0, b1, b2, b3, bf⟩ := HZ2.out.cells
      have f0 := bf 0
      have f1 := bf 1
      have f2 := bf 2
      have f3 := bf 3
      clear hb2 h2 hv hst2 bf hrd
      rcases hk with ⟨rfl, hts⟩ | ⟨k1, hts⟩
      · have HTS := Lib.hid hts
        clear hts
        have d0 : w2.cell? ⟨w.heap.size + 1, 0, none⟩ = some (.bool false) := by simp [World.cell?, HF2.out]
        have df : w2.frozen? ⟨w.heap.size + 1, 0, none⟩ = false := by simp [World.frozen?, HF2.out]
        go_wp2
        refine leaves_cons (f := 36) (args := #[.pointer (some ⟨w.heap.size, 0, none⟩), .pointer (some ⟨w.heap.size + 1, 0, none⟩)]) (by simp) rfl ?_
        refine (catch_no w.heap.size (w.heap.size + 1) _).mono ?_
        rintro e u' w3 ⟨rfl, rfl, rfl⟩
        simp only [Leaves, settle]
        have hz2 := (HZ2.out.put (v0 := .string o1) (v1 := .float .f64 n1) (v2 := .string s1) (v3 := .slice x1 l1 c1)).put (v0 := .string o1) (v1 := .float .f64 n1) (v2 := .string s1) (v3 := .slice x1 l1 c1)
        have hf2 : (putN (putN w2 w.heap.size (.string o1) (.float .f64 n1) (.string s1) (.slice x1 l1 c1)) w.heap.size (.string o1) (.float .f64 n1) (.string s1) (.slice x1 l1 c1)).heap[w.heap.size + 1]? = some (.cells #[.bool false] 4 (0, 0)) := (putN_other (by omega)).trans ((putN_other (by omega)).trans HF2.out)
        refine ⟨_, read_res _ _ w.heap.size (w.heap.size + 1) _ _ _ _ _ rfl rfl ((set_other (by omega)).trans hz2.heap) (set_block hf2 _), ?_⟩
        refine ⟨(below_put (below_put HB2.out.2 (Nat.le_refl _)) (Nat.le_refl _)).setCell (by simp) _, .inr ⟨t, _, by rw [HP.out, if_neg H1.out.1, HB2.out.1, HTS.out], rfl, ?_⟩⟩
        exact (NodeV.kept (by rw [putN_size, putN_size]; exact Nat.le_refl _) (fun b h1 _ => ⟨h1, (putN_other h1.2.1).trans (putN_other h1.2.1)⟩) t _ HV2.out).set _ _ (fun h => h.2.2 rfl) |>.sub (fun b h _ => h.1)
      · have HTS := Lib.hid hts
        have y : ((k : Int) != 0) = true := by simp; omega
        clear hts k1
        go_wp2
        refine leaves_cons (f := 36) (args := #[.pointer (some ⟨w.heap.size, 0, none⟩), .pointer (some ⟨w.heap.size + 1, 0, none⟩)]) (by simp) rfl ?_
        have hz := HZ2.out.put (v0 := .string o1) (v1 := .float .f64 n1) (v2 := .string s1) (v3 := .slice x1 l1 c1)
        have hf : (putN w2 w.heap.size (.string o1) (.float .f64 n1) (.string s1) (.slice x1 l1 c1)).heap[w.heap.size + 1]? = some (.cells #[.bool false] 4 (0, 0)) := (putN_other (by omega)).trans HF2.out
        refine (catch_yes w.heap.size (w.heap.size + 1) _ (.bool false) _ [] _ hz hf (by omega)).mono ?_
        rintro e u' w3 ⟨rfl, rfl, rfl⟩
        simp only [settle]
        have hz2 := hz.put (v0 := .string ⟨#[]⟩) (v1 := .float .f64 0) (v2 := .string ⟨#[]⟩) (v3 := .slice none 0 0)
        refine ⟨_, read_res _ _ w.heap.size (w.heap.size + 1) _ _ _ _ _ rfl rfl ((set_other (by omega)).trans hz2.heap) (set_block ((putN_other (by omega)).trans hf) _), ?_⟩
        refine ⟨(below_put (below_put HB2.out.2 (Nat.le_refl _)) (Nat.le_refl _)).setCell (by simp) _, .inl ⟨?_, rfl⟩⟩
        rw [HP.out, if_neg H1.out.1, HB2.out.1]
        cases hq : ts' with
        | nil => exact absurd hq HTS.out
        | cons _ _ => rfl
end Go.Proofs.YtfalcmbjjlgoaaaGreatDoor
/- Walk: Depth. -/
namespace Go.Proofs.YtfalcmbjjlgoaaaGreatDoor
open Go.RowKit Go.Shelf
attribute [local go_sem] run_store_float
mutual
def szT : Tree → Nat
  | .mk _ _ _ l => 1 + szL l
def szL : List Tree → Nat
  | [] => 0
  | t :: r => szT t + szL r
end
theorem szL_get (l : List Tree) (i : Nat) (h : i < l.length) : szT l[i] ≤ szL l := by
  induction l generalizing i with
  | nil => cases h
  | cons t r ih =>
    cases i with
    | zero => simp only [List.getElem_cons_zero, szL]; omega
    | succ i => simp only [List.getElem_cons_succ, szL]; have := ih i (by simpa using h); omega
theorem szT_pos (t : Tree) : 1 ≤ szT t := by cases t; simp only [szT]; omega
theorem len_szL (l : List Tree) : l.length ≤ szL l := by
  induction l with
  | nil => simp
  | cons t r ih => have := szT_pos t; simp only [List.length_cons, szL]; omega
mutual
theorem dep_sz : ∀ t : Tree, depT t ≤ szT t
  | .mk _ _ _ l => by have := depL_sz l; simp only [depT, szT]; omega
theorem depL_sz : ∀ l : List Tree, depL l ≤ szL l
  | [] => by simp [depL]
  | t :: r => by have := dep_sz t; have := depL_sz r; simp only [depL, szL]; omega
end
theorem depL_snoc (l : List Tree) (t : Tree) : depL (l ++ [t]) = max (depL l) (depT t) := by
  induction l with
  | nil => simp [depL]
  | cons a r ih => simp only [List.cons_append, depL, ih]; omega
theorem depL_get (l : List Tree) (i : Nat) (h : i < l.length) : depT l[i] ≤ depL l := by
  induction l generalizing i with
  | nil => cases h
  | cons t r ih =>
    cases i with
    | zero => simp only [List.getElem_cons_zero, depL]; omega
    | succ i => simp only [List.getElem_cons_succ, depL]; have := ih i (by simpa using h); omega
theorem depL_take (l : List Tree) (j : Nat) : depL (l.take j) ≤ depL l := by
  induction l generalizing j with
  | nil => simp
  | cons t r ih =>
    cases j with
    | zero => simp [depL]
    | succ j => simp only [List.take_succ_cons, depL]; have := ih j; omega
theorem NodesV.get {A : Nat → Prop} {w : World} {a : Addr} : ∀ (l : List Tree) (i : Nat), NodesV A w a i l → ∀ j, (h : j < l.length) → ∃ v0 v1 v2 v3, w.cell? (a.add ((i + j) * 4)) = some v0 ∧ w.cell? (a.add ((i + j) * 4 + 1)) = some v1 ∧ w.cell? (a.add ((i + j) * 4 + 2)) = some v2 ∧ w.cell? (a.add ((i + j) * 4 + 3)) = some v3 ∧ NodeV A w (.agg #[v0, v1, v2, v3]) l[j]
  | [], _, _, j, h => by cases h
  | t :: r, i, hn, j, h => by
    cases j with
    | zero => exact hn.1
    | succ j =>
      have := NodesV.get r (i + 1) hn.2 j (by simpa using h)
      rw [show i + (j + 1) = i + 1 + j by omega]
      exact this
theorem add_lit (a : Addr) (i k : Nat) (hk : k ≠ 0) : a.add (i + k) = ⟨(a.add i).block, (a.add i).off + k, none⟩ := by
  unfold Addr.add
  by_cases h : i = 0
  · subst h; simp [hk]
  · simp [h, hk]; omega
set_option maxRecDepth 100000 in
set_option maxHeartbeats 4000000 in
theorem wdepth : ∀ (n : Nat) (t : Tree), szT t ≤ n → ∀ (A : Nat → Prop) (v : Value) (w : World), szT t ≤ 1000000 → NodeV A w v t →
    Calls Tryz.prog 18 #[v] w fun e w' => e = .returned (.int .i64 (depT t)) ∧ Below w.heap.size w w' := by
  intro n
  induction n with
  | zero => intro t h; cases t; simp only [szT] at h; omega
  | succ n ih =>
    intro t hn A v w hd hv
    obtain ⟨op, fn, s, l⟩ := t
    have HV := Lib.hid hv
    obtain ⟨x, cap, rfl, hcap, hx, hch⟩ := hv
    have HIH := Lib.hid ih
    have HN := Lib.hid (show szL l ≤ n by simp only [szT] at hn; omega)
    have HD := Lib.hid (show 1 + szL l ≤ 1000000 by simpa only [szT] using hd)
    have hdd := Lib.hid (show depL l ≤ 1000000 by have := depL_sz l; have := HD.out; omega)
    have HC := Lib.hid hch
    have hll : l.length ≤ 1000000 := by have := len_szL l; have := HD.out; omega
    have HX := Lib.hid hx
    have hdt : depT (.mk op fn s l) = depL l + 1 := by simp only [depT]
    rw [hdt]
    obtain ⟨N, hN⟩ : ∃ N, N = l.length := ⟨_, rfl⟩
    rw [← hN] at hll hcap HV ⊢
    have HNL := Lib.hid hN
    clear hN hn hd hch hx ih hdt
    go_enter Tryz.func18, Tryz.ntmps18
    go_wp2_with fail
    go_loopg [3, 9] N (fun gh m i wr => ∃ j : Nat, j + gh = N ∧ i = .int .i64 j ∧ m = .int .i64 (depL (l.take j)) ∧ Hid (Below w.heap.size w wr))
    case atStart => exact ⟨0, by omega, rfl, rfl, Lib.hid ((Below.refl _ _).alloc (Nat.le_refl _) _)⟩
    case round =>
      obtain ⟨j, hj, rfl, rfl, HB⟩ := hrel
      by_cases q : j < N
      · have hjl : j < l.length := by have := HNL.out; omega
        obtain ⟨a, rfl⟩ : ∃ a, x = some a := by
          cases x with
          | none => have := HX.out rfl; rw [this] at hjl; cases hjl
          | some a => exact ⟨a, rfl⟩
        obtain ⟨v0, v1, v2, v3, e0, e1, e2, e3, hnode⟩ := NodesV.get l 0 (HC.out a rfl).2 j hjl
        rw [Nat.zero_add] at e0 e1 e2 e3
        have hab : a.block < w.heap.size := ((HC.out a rfl).1 (nil_not hjl)).2
        have hs : ∀ k, wr.heap[(a.add k).block]? = w.heap[(a.add k).block]? := fun k => by rw [add_block]; exact HB.out.block _ hab
        have d0 := cell_same (hs _) e0
        have d1 := cell_same (hs _) e1
        have d2 := cell_same (hs _) e2
        have d3 := cell_same (hs _) e3
        rw [add_lit _ _ _ (by decide)] at d1 d2 d3
        clear e0 e1 e2 e3 hs
        obtain ⟨o1, n1, s1, x1, l1, c1, hag⟩ := hnode.agg
        cases hag
        have HNODE := Lib.hid hnode
        clear hnode
        have HSN : Hid (depL (l.take (j + 1)) = max (depL (l.take j)) (depT l[j])) := Lib.hid (by rw [List.take_succ_eq_append_getElem hjl, depL_snoc])
        have HBD := Lib.hid (show depL (l.take j) ≤ 1000000 ∧ depL (l.take (j + 1)) ≤ 1000000 by have := depL_take l j; have := depL_take l (j + 1); have := hdd.out; omega)
        have HCH : Hid (∀ W, Below w.heap.size w W → Calls Tryz.prog 18 #[.agg #[.string o1, .float .f64 n1, .string s1, .slice x1 l1 c1]] W fun e w' => e = .returned (.int .i64 (depT l[j])) ∧ Below W.heap.size W w') := Lib.hid (fun W hW => by
          have h1 := szL_get l j hjl
          have h2 := HN.out
          have h3 := HD.out
          exact HIH.out l[j] (by omega) A _ W (by omega) (HNODE.out.below hW))
        obtain ⟨P1, hP1⟩ : ∃ P1, P1 = depL (l.take j) := ⟨_, rfl⟩
        obtain ⟨P2, hP2⟩ : ∃ P2, P2 = depL (l.take (j + 1)) := ⟨_, rfl⟩
        obtain ⟨P3, hP3⟩ : ∃ P3, P3 = depT l[j] := ⟨_, rfl⟩
        rw [← hP1, ← hP2] at HBD
        rw [← hP1, ← hP2, ← hP3] at HSN
        rw [← hP3] at HCH
        rw [← hP1]
        have HP2 := Lib.hid hP2
        have hmx : max (P1 : Int) (P3 : Int) = (P2 : Int) := by have := HSN.out; omega
        clear hP1 hP2 hP3
        go_wp2_with (first | (go_at_call 18; fail))
        refine (HCH.out _ (HB.out.alloc (HB.out.size) _)).mono ?_
        rintro e w2 ⟨rfl, hb2⟩
        have HB2 := Lib.hid (((HB.out.alloc (HB.out.size) (.cells #[.string o1, .float .f64 n1, .string s1, .slice x1 l1 c1] 25))).trans (below_le hb2 (by have := HB.out.size; simp; omega)))
        clear hb2 d0 d1 d2 d3
        go_wp2
        go_roundg (gk - 1)
        case measure => omega
        case rel => exact ⟨j + 1, by omega, by go_num, by rw [← HP2.out], HB2⟩
      · have e : j = l.length := by have := HNL.out; omega
        rw [show l.take j = l by rw [e, List.take_length]]
        have hd2 := hdd.out
        obtain ⟨D, hD⟩ : ∃ D, D = depL l := ⟨_, rfl⟩
        have HDV := Lib.hid hD
        rw [← hD] at hd2 ⊢
        clear e hD
        go_wp2
        go_ret
        exact ⟨by rw [← HDV.out]; rfl, HB.out⟩
end Go.Proofs.YtfalcmbjjlgoaaaGreatDoor
/- Sizes of what is parsed; walk: Parse. -/
namespace Go.Proofs.YtfalcmbjjlgoaaaGreatDoor
open Go.RowKit Go.Shelf
attribute [local go_sem] run_store_float
def Mode.sz : Mode → Nat
  | .orT t | .andT t | .sumT t | .prodT t => szT t
  | _ => 0
theorem sz_two (op : Bs) (a b : Tree) : szT (two op a b) = 1 + szT a + szT b := by simp [two, szT, szL]; omega
theorem sz_one (op : Bs) (a : Tree) : szT (one op a) = 1 + szT a := by simp [one, szT, szL]
theorem sz_leaf (op s : Bs) (n : Nat) : szT (.mk op n s []) = 1 := by simp [szT, szL]
def SzC (R : List Tok → Option (Tree × List Tok)) : Prop := ∀ ts a r, R ts = some (a, r) → szT a + r.length ≤ ts.length
theorem inside_sz {ok : Bool} {R : List Tok → Option (Tree × List Tok)} {ts r : List Tok} {a : Tree} (hR : SzC R) (h : inside ok R ts = some (a, r)) : szT a + r.length + 2 ≤ ts.length := by
  unfold inside at h
  split at h
  · cases h
  · rename_i t1 h1
    split at h
    · cases h
    · rename_i a2 t2 h2
      split at h
      · cases h
      · rename_i t3 h3
        cases h
        have := must_len h1
        have := hR _ _ _ h2
        have := must_len h3
        omega
theorem hasP_sz {ok : Bool} {R : List Tok → Option (Tree × List Tok)} {ts r : List Tok} {a : Tree} (hR : SzC R) (h : hasP ok R ts = some (a, r)) : szT a + r.length + 2 ≤ ts.length := by
  unfold hasP at h
  split at h
  · cases h
  · rename_i t1 h1
    split at h
    · cases h
    · rename_i a2 t2 h2
      split at h
      · cases h
      · rename_i t3 h3
        split at h
        · cases h
        · rename_i b t4 h4
          split at h
          · cases h
          · rename_i t5 h5
            cases h
            have := must_len h1
            have := hR _ _ _ h2
            have := must_len h3
            have := hR _ _ _ h4
            have := must_len h5
            rw [sz_two]
            omega
theorem P_sz (V : Bs → Nat) (ok : Bool) : ∀ (n : Nat) (m : Mode) (ts : List Tok) (a : Tree) (r : List Tok), P V ok n m ts = some (a, r) → szT a + r.length ≤ ts.length + m.sz := by
  intro n
  induction n with
  | zero => intro m ts a r h; cases h
  | succ n ih =>
    have chain : ∀ (m1 : Mode) (m2 : Tree → Mode) (ts r : List Tok) (a : Tree), m1.sz = 0 → (∀ t, (m2 t).sz = szT t) → (match P V ok n m1 ts with | none => none | some (a, r) => P V ok n (m2 a) r) = some (a, r) → szT a + r.length ≤ ts.length := by
      intro m1 m2 ts r a hm hm2 h
      split at h
      · cases h
      · rename_i b t1 h1
        have g := ih _ _ _ _ h1
        have g2 := ih _ _ _ _ h
        rw [hm2] at g2
        omega
    have tailr : ∀ (c : Prop) [Decidable c] (m1 : Mode) (m2 : Tree → Mode) (ts r : List Tok) (a x : Tree), m1.sz = 0 → (∀ t, (m2 t).sz = 1 + szT x + szT t) → (if c then (match adv ok ts with | none => none | some t1 => match P V ok n m1 t1 with | none => none | some (b, r) => P V ok n (m2 b) r) else some (x, ts)) = some (a, r) → szT a + r.length ≤ ts.length + szT x := by
      intro c _ m1 m2 ts r a x hm hm2 h
      split at h
      · split at h
        · cases h
        · rename_i t1 h1
          split at h
          · cases h
          · rename_i b t2 h2
            have g0 := adv_len h1
            have g := ih _ _ _ _ h2
            have g2 := ih _ _ _ _ h
            rw [hm2] at g2
            omega
      · cases h; omega
    have hor : SzC (P V ok n .or) := fun ts a r h => ih _ _ _ _ h
    intro m ts a r h
    cases m with
    | or => exact chain .and Mode.orT ts r a rfl (fun _ => rfl) (by have h' := h; simp only [P] at h'; exact h')
    | and => exact chain .not Mode.andT ts r a rfl (fun _ => rfl) (by have h' := h; simp only [P] at h'; exact h')
    | sum => exact chain .prod Mode.sumT ts r a rfl (fun _ => rfl) (by have h' := h; simp only [P] at h'; exact h')
    | prod => exact chain .signed Mode.prodT ts r a rfl (fun _ => rfl) (by have h' := h; simp only [P] at h'; exact h')
    | orT x => exact tailr _ .and (fun b => Mode.orT (two wor x b)) ts r a x rfl (fun t => by simp only [Mode.sz]; exact sz_two _ _ _) (by have h' := h; simp only [P] at h'; exact h')
    | andT x => exact tailr _ .not (fun b => Mode.andT (two wand x b)) ts r a x rfl (fun t => by simp only [Mode.sz]; exact sz_two _ _ _) (by have h' := h; simp only [P] at h'; exact h')
    | sumT x => exact tailr _ .prod (fun b => Mode.sumT (two ((ts.headD ⟨0, []⟩).s) x b)) ts r a x rfl (fun t => by simp only [Mode.sz]; exact sz_two _ _ _) (by have h' := h; simp only [P] at h'; exact h')
    | prodT x => exact tailr _ .signed (fun b => Mode.prodT (two ((ts.headD ⟨0, []⟩).s) x b)) ts r a x rfl (fun t => by simp only [Mode.sz]; exact sz_two _ _ _) (by have h' := h; simp only [P] at h'; exact h')
    | not =>
      simp only [P] at h
      split at h
      · split at h
        · cases h
        · rename_i t1 h1
          split at h
          · cases h
          · rename_i b t2 h2
            cases h
            have g0 := adv_len h1
            have g := ih _ _ _ _ h2
            rw [sz_one]
            simp only [Mode.sz] at g ⊢
            omega
      · split at h
        · cases h
        · rename_i b t2 h2
          have g2 := ih _ _ _ _ h2
          simp only [Mode.sz] at g2 ⊢
          split at h
          · cases h; exact g2
          · split at h
            · split at h
              · cases h
              · rename_i t3 h3
                split at h
                · cases h
                · rename_i c t4 h4
                  cases h
                  have g0 := adv_len h3
                  have g := ih _ _ _ _ h4
                  simp only [Mode.sz] at g
                  rw [sz_two]
                  omega
            · cases h; exact g2
    | signed =>
      simp only [P] at h
      split at h
      · split at h
        · cases h
        · rename_i t1 h1
          split at h
          · cases h
          · rename_i b t2 h2
            cases h
            have g0 := adv_len h1
            have g := ih _ _ _ _ h2
            simp only [Mode.sz] at g ⊢
            rw [sz_one]
            omega
      · have g := ih _ _ _ _ h
        exact g
    | atom =>
      cases ts with
      | nil => simp only [P] at h; cases h
      | cons t ts =>
        rw [P_atom] at h
        simp only [Mode.sz]
        split at h
        · split at h
          · cases h
          · rename_i t1 h1
            cases h
            have g0 := adv_len h1
            rw [sz_leaf]
            omega
        · split at h
          · split at h
            · cases h
            · rename_i t1 h1
              cases h
              have g0 := adv_len h1
              rw [sz_leaf]
              omega
          · split at h
            · unfold namedP at h
              split at h
              · cases h
              · split at h
                · cases h
                · rename_i t1 h1
                  have g0 := adv_len h1
                  split at h
                  · split at h
                    · cases h
                    · rename_i b t2 h2
                      cases h
                      have g := inside_sz hor h2
                      rw [sz_one]
                      omega
                  · split at h
                    · have g := hasP_sz hor h
                      omega
                    · cases h
                      rw [sz_leaf]
                      omega
            · have g := inside_sz hor h
              omega
theorem lexF_len : ∀ (n : Nat) (l : Bs), (lexF n l).1.length ≤ l.length
  | 0, _ => by simp [lexF]
  | n + 1, l => by
    simp only [lexF]
    split
    · simp
    · cases hq : lex1 (l.drop (cntBl l)) with
      | none => simp
      | some x =>
        obtain ⟨t, k⟩ := x
        have h3 := lex1_len hq
        have h4 := lexF_len n ((l.drop (cntBl l)).drop k)
        simp at h3 h4 ⊢
        omega
theorem readP_sz {l : Bs} {t : Tree} (h : readP l = some t) : szT t ≤ l.length := by
  unfold readP at h
  split at h
  · cases h
  · split at h
    · rename_i t2 h2
      cases h
      have g := P_sz _ _ _ _ _ _ _ h2
      have g2 := lexF_len (l.length + 1) l
      simp only [Mode.sz, List.length_nil] at g
      unfold lex at g
      omega
    · cases h
def zeroT : Tree := .mk [] 0 [] []
/-- What parsing a text gives: a tree, and why not. -/
def parseP (l : Bs) : Tree × Nat :=
  if 256 < l.length then (zeroT, 2) else match readP l with
  | none => (zeroT, 190)
  | some t => if 16 < depT t then (zeroT, 190) else (t, 0)
def ParseEnd (l : Bs) (w : World) (e : Ending) (w' : World) : Prop :=
  ∃ v, e = .returned (.tuple #[v, .int .i64 ((parseP l).2 : Nat)]) ∧ NodeV (fun b => w.heap.size ≤ b) w' v (parseP l).1 ∧ Below w.heap.size w w'
set_option maxRecDepth 100000 in
set_option maxHeartbeats 4000000 in
theorem wparse (l : Bs) (hl : l.length ≤ 1000000) (w : World) : Calls Tryz.prog 5 #[.string (tx l)] w (ParseEnd l w) := by
  have HS := Lib.hid (tx_size' l)
  have HRD := Lib.hid (fun W => wread l hl W)
  have HL := Lib.hid hl
  obtain ⟨pr, hpr⟩ : ∃ x, x = parseP l := ⟨_, rfl⟩
  have HP := Lib.hid hpr
  unfold parseP at HP
  by_cases q : 256 < l.length
  · have q2 : 256 < ((tx l).size : Int) := by have := HS.out; omega
    rw [if_pos q] at HP
    have HE : Hid (∀ e w', (∃ v, e = .returned (.tuple #[v, .int .i64 (2 : Nat)]) ∧ NodeV (fun b => w.heap.size ≤ b) w' v zeroT ∧ Below w.heap.size w w') → ParseEnd l w e w') := Lib.hid (fun e w' h => by
      unfold ParseEnd; rw [← hpr, HP.out]; exact h)
    clear hpr q hl
    go_enter Tryz.func5, Tryz.ntmps5
    go_wp2
    refine bodyPost_ret (results_cell_tmp rfl _ _ w.heap.size 25 _ _ _ rfl (heap_alloc_new w _) Tryz.underlying25 rfl (by kernel_rfl)) rfl (HE.out _ _ ?_)
    exact ⟨_, rfl, NodeV.zero _ _, (Below.refl _ _).alloc (Nat.le_refl _) _⟩
  · have q2 : ¬ 256 < ((tx l).size : Int) := by have := HS.out; omega
    rw [if_neg q] at HP
    have HSZ : Hid (∀ t, readP l = some t → szT t ≤ 1000000 ∧ depT t ≤ 1000000) := Lib.hid (fun t h => by
      have h1 := readP_sz h
      have h2 := dep_sz t
      have h3 := HL.out
      omega)
    clear q hl
    go_enter Tryz.func5, Tryz.ntmps5
    go_wp2_with (first | (go_at_call 21; fail))
    go_at_call 21
    refine (HRD.out _).mono ?_
    rintro e w2 ⟨hb2, ⟨h1, rfl⟩ | ⟨t, v, h1, rfl, hv⟩⟩
    · have HE : Hid (∀ e w', (∃ v, e = .returned (.tuple #[v, .int .i64 (190 : Nat)]) ∧ NodeV (fun b => w.heap.size ≤ b) w' v zeroT ∧ Below w.heap.size w w') → ParseEnd l w e w') := Lib.hid (fun e w' h => by
        unfold ParseEnd; rw [← hpr, HP.out, h1]; exact h)
      have HB := Lib.hid hb2
      have HZ : Hid (NB w2 w.heap.size zeroN) := Lib.hid ((show NB (w.alloc (.cells #[.string ⟨#[]⟩, .float .f64 0, .string ⟨#[]⟩, .slice none 0 0] 25)) w.heap.size zeroN from ⟨_, _, _, _, rfl, heap_alloc_new _ _⟩).below hb2)
      obtain ⟨b0, b1, b2, b3, bf⟩ := HZ.out.cells
      have f0 := bf 0
      have f1 := bf 1
      have f2 := bf 2
      have f3 := bf 3
      have hlt := HZ.out.lt
      clear bf hb2 h1 hpr HP
      go_wp2
      have hz2 := HZ.out.put (v0 := .string ⟨#[]⟩) (v1 := .float .f64 0) (v2 := .string ⟨#[]⟩) (v3 := .slice none 0 0)
      refine bodyPost_ret (results_cell_tmp rfl _ _ w.heap.size 25 _ _ _ rfl ((heap_alloc_old _ _ (by simpa using hlt)).trans hz2.heap) Tryz.underlying25 rfl (by kernel_rfl)) rfl (HE.out _ _ ?_)
      have hbw : Below w.heap.size w w2 := ((Below.refl _ _).alloc (Nat.le_refl _) _).trans (below_le HB.out (by simp))
      exact ⟨_, rfl, NodeV.zero _ _, (below_put hbw (Nat.le_refl _)).alloc (by have := hbw.size; rw [putN_size]; exact this) _⟩
    · have HB := Lib.hid hb2
      have HZ : Hid (NB w2 w.heap.size zeroN) := Lib.hid ((show NB (w.alloc (.cells #[.string ⟨#[]⟩, .float .f64 0, .string ⟨#[]⟩, .slice none 0 0] 25)) w.heap.size zeroN from ⟨_, _, _, _, rfl, heap_alloc_new _ _⟩).below hb2)
      have HV := Lib.hid (hv.sub (B := fun b => w.heap.size ≤ b ∧ b ≠ w.heap.size) (fun b h _ => by have h3 : (w.alloc (.cells #[.string ⟨#[]⟩, .float .f64 0, .string ⟨#[]⟩, .slice none 0 0] 25)).heap.size ≤ b := h; simp at h3; show _ ∧ _; omega))
      obtain ⟨o1, n1, s1, x1, l1, c1, rfl⟩ := hv.agg
      have HSZ2 := Lib.hid (HSZ.out t h1)
      have HDP : Hid (∀ W, NodeV (fun b => w.heap.size ≤ b ∧ b ≠ w.heap.size) W (.agg #[.string o1, .float .f64 n1, .string s1, .slice x1 l1 c1]) t → Calls Tryz.prog 18 #[.agg #[.string o1, .float .f64 n1, .string s1, .slice x1 l1 c1]] W fun e w' => e = .returned (.int .i64 (depT t)) ∧ Below W.heap.size W w') :=
        Lib.hid (fun W h => wdepth _ t (Nat.le_refl _) _ _ W HSZ2.out.1 h)
      have HP2 : Hid (pr = if 16 < depT t then (zeroT, 190) else (t, 0)) := Lib.hid (by rw [HP.out, h1])
      obtain ⟨D, hD⟩ : ∃ D, D = depT t := ⟨_, rfl⟩
      rw [← hD] at HDP HP2 HSZ2
      have hdl : D ≤ 1000000 := HSZ2.out.2
      have HPR := Lib.hid hpr
      have hlt := HZ.out.lt
      clear hb2 h1 hpr HP hv hD
      go_wp2_with (first | (go_at_call 18; fail))
      refine (HDP.out _ (HV.out.below ((Below.refl _ _).alloc (Nat.le_refl _) _))).mono ?_
      rintro e w5 ⟨rfl, hb5⟩
      have HB5 : Hid (Below w2.heap.size w2 w5) := Lib.hid (((Below.refl _ _).alloc (Nat.le_refl _) (.cells #[.string o1, .float .f64 n1, .string s1, .slice x1 l1 c1] 25)).trans (below_le hb5 (by simp)))
      have HG5 : Hid (NB w5 w2.heap.size (.agg #[.string o1, .float .f64 n1, .string s1, .slice x1 l1 c1])) := Lib.hid ((show NB (w2.alloc (.cells #[.string o1, .float .f64 n1, .string s1, .slice x1 l1 c1] 25)) w2.heap.size _ from ⟨_, _, _, _, rfl, heap_alloc_new _ _⟩).below hb5)
      have HZ5 := Lib.hid (HZ.out.below HB5.out)
      have HV5 := Lib.hid (HV.out.below HB5.out)
      obtain ⟨b0, b1, b2, b3, bf⟩ := HZ5.out.cells
      obtain ⟨a0, a1, a2, a3, _⟩ := HG5.out.cells
      have f0 := bf 0
      have f1 := bf 1
      have f2 := bf 2
      have f3 := bf 3
      clear bf hb5 hlt
      have hbw : Hid (Below w.heap.size w w5) := Lib.hid ((((Below.refl _ _).alloc (Nat.le_refl _) _).trans (below_le HB.out (by simp))).trans (below_le HB5.out (by have := HB.out.size; simp at this; omega)))
      by_cases q16 : 16 < D
      · have HE : Hid (∀ e w', (∃ v, e = .returned (.tuple #[v, .int .i64 (190 : Nat)]) ∧ NodeV (fun b => w.heap.size ≤ b) w' v zeroT ∧ Below w.heap.size w w') → ParseEnd l w e w') := Lib.hid (fun e w' h => by
          unfold ParseEnd; rw [← HPR.out, HP2.out, if_pos q16]; exact h)
        go_wp2
        have hz2 := HZ5.out.put (v0 := .string ⟨#[]⟩) (v1 := .float .f64 0) (v2 := .string ⟨#[]⟩) (v3 := .slice none 0 0)
        refine bodyPost_ret (results_cell_tmp rfl _ _ w.heap.size 25 _ _ _ rfl hz2.heap Tryz.underlying25 rfl (by kernel_rfl)) rfl (HE.out _ _ ?_)
        exact ⟨_, rfl, NodeV.zero _ _, below_put hbw.out (Nat.le_refl _)⟩
      · have HE : Hid (∀ e w', (∃ v, e = .returned (.tuple #[v, .int .i64 (0 : Nat)]) ∧ NodeV (fun b => w.heap.size ≤ b) w' v t ∧ Below w.heap.size w w') → ParseEnd l w e w') := Lib.hid (fun e w' h => by
          unfold ParseEnd; rw [← HPR.out, HP2.out, if_neg q16]; exact h)
        go_wp2
        have hz2 := HZ5.out.put (v0 := .string o1) (v1 := .float .f64 n1) (v2 := .string s1) (v3 := .slice x1 l1 c1)
        refine bodyPost_ret (results_cell_tmp rfl _ _ w.heap.size 25 _ _ _ rfl hz2.heap Tryz.underlying25 rfl (by kernel_rfl)) rfl (HE.out _ _ ?_)
        exact ⟨_, rfl, NodeV.kept (by rw [putN_size]; exact Nat.le_refl _) (fun b h1 _ => ⟨h1.1, putN_other h1.2⟩) t _ HV5.out, below_put hbw.out (Nat.le_refl _)⟩
end Go.Proofs.YtfalcmbjjlgoaaaGreatDoor
/- Walk: bound. -/
namespace Go.Proofs.YtfalcmbjjlgoaaaGreatDoor
open Go.RowKit Go.Shelf
theorem bel1 (w : World) (o : Obj) : Below w.heap.size w (w.alloc o) := (Below.refl _ _).alloc (Nat.le_refl _) _
attribute [local go_sem] run_store_float
/-- Binds in memory. -/
def BndV (w : World) (v : Value) (L : List Bnd) : Prop := ∃ x cap, v = .slice x L.length cap ∧ L.length ≤ cap ∧ (x = none → L = []) ∧ ∀ a, x = some a → (L ≠ [] → a.block < w.heap.size) ∧ ∀ i b, L[i]? = some b →
  w.cell? (a.add (i * 5)) = some (.string (tx b.nm)) ∧ w.cell? (a.add (i * 5 + 1)) = some (.int .i64 b.v.t) ∧ w.cell? (a.add (i * 5 + 2)) = some (.float .f64 b.v.n) ∧ w.cell? (a.add (i * 5 + 3)) = some (.string (tx b.v.s)) ∧ w.cell? (a.add (i * 5 + 4)) = some (.bool b.v.b)
theorem BndV.agg {w : World} {v : Value} {L : List Bnd} (h : BndV w v L) : ∃ x n c, v = .slice x n c := by
  obtain ⟨x, cap, rfl, _⟩ := h; exact ⟨_, _, _, rfl⟩
theorem BndV.kept {w w' : World} {v : Value} {L : List Bnd} (h : BndV w v L) (hz : w.heap.size ≤ w'.heap.size) (hk : ∀ b, b < w.heap.size → w'.heap[b]? = w.heap[b]?) : BndV w' v L := by
  obtain ⟨x, cap, hv, h1, h2, h3⟩ := h
  refine ⟨x, cap, hv, h1, h2, fun a ha => ?_⟩
  obtain ⟨g0, g⟩ := h3 a ha
  refine ⟨fun e => Nat.lt_of_lt_of_le (g0 e) hz, fun i b hi => ?_⟩
  replace g0 := g0 (nil_not (List.getElem?_eq_some_iff.1 hi).1)
  obtain ⟨g1, g2, g3, g4, g5⟩ := g i b hi
  have hs : ∀ j, w'.heap[(a.add j).block]? = w.heap[(a.add j).block]? := fun j => by rw [add_block]; exact hk _ g0
  exact ⟨cell_same (hs _) g1, cell_same (hs _) g2, cell_same (hs _) g3, cell_same (hs _) g4, cell_same (hs _) g5⟩
theorem BndV.below {w w' : World} {v : Value} {L : List Bnd} (h : BndV w v L) (hb : Below w.heap.size w w') : BndV w' v L := h.kept hb.size hb.block
theorem BndV.nil (w : World) : BndV w (.slice none 0 0) [] := ⟨none, 0, rfl, Nat.le_refl _, fun _ => rfl, fun a ha => by cases ha⟩
/-- A variable of Val. -/
def VB (w : World) (g : Nat) (v0 v1 v2 v3 : Value) : Prop := w.heap[g]? = some (.cells #[v0, v1, v2, v3] 51 (0, 0))
theorem VB.cells {w : World} {g : Nat} {v0 v1 v2 v3 : Value} (h : VB w g v0 v1 v2 v3) : w.cell? ⟨g, 0, none⟩ = some v0 ∧ w.cell? ⟨g, 1, none⟩ = some v1 ∧ w.cell? ⟨g, 2, none⟩ = some v2 ∧ w.cell? ⟨g, 3, none⟩ = some v3 := by
  unfold VB at h
  exact ⟨by simp [World.cell?, h], by simp [World.cell?, h], by simp [World.cell?, h], by simp [World.cell?, h]⟩
theorem VB.fr {w : World} {g : Nat} {v0 v1 v2 v3 : Value} (h : VB w g v0 v1 v2 v3) (j : Nat) : w.frozen? ⟨g, j, none⟩ = false := by unfold VB at h; simp [World.frozen?, h]
theorem VB.lt {w : World} {g : Nat} {v0 v1 v2 v3 : Value} (h : VB w g v0 v1 v2 v3) : g < w.heap.size := (Array.getElem?_eq_some_iff.1 h).1
theorem VB.below {w w' : World} {g : Nat} {v0 v1 v2 v3 : Value} (h : VB w g v0 v1 v2 v3) (hb : Below w.heap.size w w') : VB w' g v0 v1 v2 v3 := (hb.block g h.lt).trans h
theorem VB.put {w : World} {g : Nat} {u0 u1 u2 u3 v0 v1 v2 v3 : Value} (h : VB w g u0 u1 u2 u3) : VB (putN w g v0 v1 v2 v3) g v0 v1 v2 v3 := by
  unfold putN VB
  rw [set_block (set_block (set_block (set_block h _) _) _) _]
  rfl
/-- What bound gives as a Go value. -/
def bvV (o : Option Vl) : Value := match o with
  | none => .agg #[.int .i64 0, .float .f64 0, .string (tx []), .bool false]
  | some v => .agg #[.int .i64 v.t, .float .f64 v.n, .string (tx v.s), .bool v.b]
theorem firstB_step {s : Bs} {L : List Bnd} {j : Nat} (h : j < L.length) : firstB s (L.drop j) = if L[j].nm = s then some L[j] else firstB s (L.drop (j + 1)) := by
  rw [List.drop_eq_getElem_cons h]
  rfl
theorem firstB_end {s : Bs} {L : List Bnd} {j : Nat} (h : L.length ≤ j) : firstB s (L.drop j) = none := by
  rw [List.drop_eq_nil_of_le h]
  rfl
set_option maxRecDepth 100000 in
set_option maxHeartbeats 8000000 in
theorem wbound (s : Bs) (v : Value) (L : List Bnd) (hL : L.length ≤ 1000000) (w : World) (h : BndV w v L) : Calls Tryz.prog 45 #[.string (tx s), v] w fun e w' => e = .returned (.tuple #[bvV (boundV L s), .bool (boundV L s).isSome]) ∧ Below w.heap.size w w' := by
  obtain ⟨x, cap, rfl, hcap, hx, hc⟩ := h
  have HC := Lib.hid hc
  have HX := Lib.hid hx
  obtain ⟨res, hres⟩ : ∃ y, y = boundV L s := ⟨_, rfl⟩
  rw [← hres]
  have HR : Hid (res = match firstB s (L.drop 0) with | none => none | some b => plainV b.v) := Lib.hid hres
  obtain ⟨N, hN⟩ : ∃ N, N = L.length := ⟨_, rfl⟩
  have HN := Lib.hid hN
  have HZ0 : Hid (VB (w.alloc (.cells #[.int .i64 0, .float .f64 0, .string ⟨#[]⟩, .bool false] 51)) w.heap.size (.int .i64 0) (.float .f64 0) (.string ⟨#[]⟩) (.bool false)) := Lib.hid (heap_alloc_new _ _)
  have HB0 := Lib.hid (bel1 w (.cells #[.int .i64 0, .float .f64 0, .string ⟨#[]⟩, .bool false] 51))
  rw [← hN] at hL hcap ⊢
  clear hc hx hN hres
  go_enter Tryz.func45, Tryz.ntmps45
  go_wp2_with fail
  generalize w.alloc (.cells #[.int .i64 0, .float .f64 0, .string ⟨#[]⟩, .bool false] 51) = W0 at HZ0 HB0 ⊢
  go_loopg [10] N (fun gh i wr => ∃ j : Nat, j + gh = N ∧ i = .int .i64 j ∧ Hid (res = match firstB s (L.drop j) with | none => none | some b => plainV b.v) ∧ Hid (VB wr w.heap.size (.int .i64 0) (.float .f64 0) (.string ⟨#[]⟩) (.bool false)) ∧ Hid (Below w.heap.size w wr))
  case atStart => exact ⟨0, by omega, rfl, HR, HZ0, HB0⟩
  case round =>
    obtain ⟨j, hj, rfl, HR1, HZ, HB⟩ := hrel
    clear HR HZ0 HB0
    have hlt := HZ.out.lt
    by_cases q : j < N
    · have hjl : j < L.length := by have := HN.out; omega
      obtain ⟨a, rfl⟩ : ∃ a, x = some a := by
        cases x with
        | none => have := HX.out rfl; rw [this] at hjl; cases hjl
        | some a => exact ⟨a, rfl⟩
      obtain ⟨e0, e1, e2, e3, e4⟩ := (HC.out a rfl).2 j L[j] (List.getElem?_eq_getElem hjl)
      have hab : a.block < w.heap.size := (HC.out a rfl).1 (nil_not hjl)
      have hs : ∀ k, wr.heap[(a.add k).block]? = w.heap[(a.add k).block]? := fun k => by rw [add_block]; exact HB.out.block _ hab
      have d0 := cell_same (hs _) e0
      have d1 := cell_same (hs _) e1
      have d2 := cell_same (hs _) e2
      have d3 := cell_same (hs _) e3
      have d4 := cell_same (hs _) e4
      rw [add_lit _ _ _ (by decide)] at d1 d2 d3 d4
      clear e0 e1 e2 e3 e4 hs
      have HST := Lib.hid (firstB_step (s := s) hjl)
      obtain ⟨bb, hbb⟩ : ∃ bb, bb = L[j] := ⟨_, rfl⟩
      rw [← hbb] at d0 d1 d2 d3 d4 HST
      clear hbb
      obtain ⟨nm, t, fn, sv, bv⟩ := bb
      simp only at d0 d1 d2 d3 d4
      by_cases q1 : nm = s
      · subst q1
        have HRV : Hid (res = plainV ⟨t, fn, sv, bv⟩) := Lib.hid (by rw [HR1.out, HST.out, if_pos rfl])
        have b0 : ((tx nm).toList != (tx nm).toList) = false := bne_self_eq_false _
        obtain ⟨k0, k1, k2, k3⟩ := HZ.out.cells
        have f0 := HZ.out.fr 0
        have f1 := HZ.out.fr 1
        have f2 := HZ.out.fr 2
        have f3 := HZ.out.fr 3
        have HPUT : Hid (∀ (u0 u1 u2 u3 : Value) (c : Obj), VB ((putN wr w.heap.size u0 u1 u2 u3).alloc c) w.heap.size u0 u1 u2 u3 ∧ Below w.heap.size w ((putN wr w.heap.size u0 u1 u2 u3).alloc c)) := Lib.hid (fun u0 u1 u2 u3 c => by
          have h1 := below_put (v0 := u0) (v1 := u1) (v2 := u2) (v3 := u3) HB.out (Nat.le_refl w.heap.size)
          have h2 := HZ.out.put (v0 := u0) (v1 := u1) (v2 := u2) (v3 := u3)
          exact ⟨h2.below ((Below.refl _ _).alloc (Nat.le_refl _) _), h1.alloc (by have := HB.out.size; rw [putN_size]; exact this) _⟩)
        clear HR1 HST HZ
        by_cases t1 : t = 1
        · subst t1
          go_wp2
          refine bodyPost_ret (results_cell_tmp rfl _ _ w.heap.size 51 _ _ _ rfl (HPUT.out _ _ _ _ _).1 Tryz.underlying51 rfl (by kernel_rfl)) rfl ?_
          rw [HRV.out]
          exact ⟨rfl, (HPUT.out _ _ _ _ _).2⟩
        · have i1 : (t == 1) = false := by simpa using t1
          by_cases t2 : t = 2
          · subst t2
            go_wp2
            refine bodyPost_ret (results_cell_tmp rfl _ _ w.heap.size 51 _ _ _ rfl (HPUT.out _ _ _ _ _).1 Tryz.underlying51 rfl (by kernel_rfl)) rfl ?_
            rw [HRV.out]
            exact ⟨rfl, (HPUT.out _ _ _ _ _).2⟩
          · have i2 : (t == 2) = false := by simpa using t2
            by_cases t3 : t = 3
            · subst t3
              go_wp2
              refine bodyPost_ret (results_cell_tmp rfl _ _ w.heap.size 51 _ _ _ rfl (HPUT.out _ _ _ _ _).1 Tryz.underlying51 rfl (by kernel_rfl)) rfl ?_
              rw [HRV.out]
              exact ⟨rfl, (HPUT.out _ _ _ _ _).2⟩
            · have i3 : (t == 3) = false := by simpa using t3
              have HRN : Hid (res = none) := Lib.hid (by rw [HRV.out]; unfold plainV; rw [if_neg t1, if_neg t2, if_neg t3])
              clear HRV
              go_wp2
              refine bodyPost_ret (results_cell_tmp rfl _ _ w.heap.size 51 _ _ _ rfl (HPUT.out _ _ _ _ _).1 Tryz.underlying51 rfl (by kernel_rfl)) rfl ?_
              rw [HRN.out]
              exact ⟨rfl, (HPUT.out _ _ _ _ _).2⟩
      · have b0 : ((tx nm).toList == (tx s).toList) = false := by rw [tx_toList, tx_toList]; simpa using q1
        have HR2 : Hid (res = match firstB s (L.drop (j + 1)) with | none => none | some b => plainV b.v) := Lib.hid (by rw [HR1.out, HST.out, if_neg q1])
        have HZ2 := Lib.hid (fun c => HZ.out.below ((Below.refl wr.heap.size wr).alloc (Nat.le_refl _) c))
        have HB2 := Lib.hid (fun c => HB.out.alloc HB.out.size c)
        clear q1 HR1 HST HZ HB
        go_wp2
        go_roundg (gk - 1)
        case measure => omega
        case rel => exact ⟨j + 1, by omega, by go_num, HR2, Lib.hid (HZ2.out _), Lib.hid (HB2.out _)⟩
    · have HRN : Hid (res = none) := Lib.hid (by rw [HR1.out, firstB_end (by have := HN.out; omega)])
      obtain ⟨k0, k1, k2, k3⟩ := HZ.out.cells
      have f0 := HZ.out.fr 0
      have f1 := HZ.out.fr 1
      have f2 := HZ.out.fr 2
      have f3 := HZ.out.fr 3
      have HPUT : Hid (∀ (u0 u1 u2 u3 : Value) (_ : Obj), VB ((putN wr w.heap.size u0 u1 u2 u3)) w.heap.size u0 u1 u2 u3 ∧ Below w.heap.size w ((putN wr w.heap.size u0 u1 u2 u3))) := Lib.hid (fun u0 u1 u2 u3 _ => by
        have h1 := below_put (v0 := u0) (v1 := u1) (v2 := u2) (v3 := u3) HB.out (Nat.le_refl w.heap.size)
        have h2 := HZ.out.put (v0 := u0) (v1 := u1) (v2 := u2) (v3 := u3)
        exact ⟨h2, h1⟩)
      clear HZ HR1
      go_wp2
      refine bodyPost_ret (results_cell_tmp rfl _ _ w.heap.size 51 _ _ _ rfl (HPUT.out _ _ _ _ (.cells #[] 0)).1 Tryz.underlying51 rfl (by kernel_rfl)) rfl ?_
      rw [HRN.out]
      exact ⟨rfl, (HPUT.out _ _ _ _ (.cells #[] 0)).2⟩
end Go.Proofs.YtfalcmbjjlgoaaaGreatDoor
/- Walks: the reference's Depth. -/
namespace Go.Proofs.YtfalcmbjjlgoaaaGreatDoor
open Go.RowKit Go.Shelf
attribute [local go_sem] run_store_float
set_option maxRecDepth 100000 in
set_option maxHeartbeats 4000000 in
theorem rdepth : ∀ (n : Nat) (t : Tree), szT t ≤ n → ∀ (A : Nat → Prop) (v : Value) (w : World), szT t ≤ 1000000 → NodeV A w v t →
    Calls Tryz.prog 19 #[v] w fun e w' => e = .returned (.int .i64 (depT t)) ∧ Below w.heap.size w w' := by
  intro n
  induction n with
  | zero => intro t h; cases t; simp only [szT] at h; omega
  | succ n ih =>
    intro t hn A v w hd hv
    obtain ⟨op, fn, s, l⟩ := t
    have HV := Lib.hid hv
    obtain ⟨x, cap, rfl, hcap, hx, hch⟩ := hv
    have HIH := Lib.hid ih
    have HN := Lib.hid (show szL l ≤ n by simp only [szT] at hn; omega)
    have HD := Lib.hid (show 1 + szL l ≤ 1000000 by simpa only [szT] using hd)
    have hdd := Lib.hid (show depL l ≤ 1000000 by have := depL_sz l; have := HD.out; omega)
    have HC := Lib.hid hch
    have hll : l.length ≤ 1000000 := by have := len_szL l; have := HD.out; omega
    have HX := Lib.hid hx
    have hdt : depT (.mk op fn s l) = depL l + 1 := by simp only [depT]
    rw [hdt]
    obtain ⟨N, hN⟩ : ∃ N, N = l.length := ⟨_, rfl⟩
    rw [← hN] at hll hcap HV ⊢
    have HNL := Lib.hid hN
    clear hN hn hd hch hx ih hdt
    go_enter Tryz.func19, Tryz.ntmps19
    go_wp2_with fail
    go_loopg [3, 4] N (fun gh m i wr => ∃ j : Nat, j + gh = N ∧ i = .int .i64 j ∧ m = .int .i64 (depL (l.take j)) ∧ Hid (Below w.heap.size w wr) ∧ Hid (NB wr w.heap.size (.agg #[.string (tx op), .float .f64 fn, .string (tx s), .slice x N cap])))
    case atStart => exact ⟨0, by omega, rfl, rfl, Lib.hid ((Below.refl _ _).alloc (Nat.le_refl _) _), Lib.hid ⟨_, _, _, _, rfl, heap_alloc_new _ _⟩⟩
    case round =>
      obtain ⟨j, hj, rfl, rfl, HB, HNB⟩ := hrel
      obtain ⟨p0, p1, p2, p3, _⟩ := HNB.out.cells
      have hbl := HNB.out.lt
      by_cases q : j < N
      · have hjl : j < l.length := by have := HNL.out; omega
        obtain ⟨a, rfl⟩ : ∃ a, x = some a := by
          cases x with
          | none => have := HX.out rfl; rw [this] at hjl; cases hjl
          | some a => exact ⟨a, rfl⟩
        obtain ⟨v0, v1, v2, v3, e0, e1, e2, e3, hnode⟩ := NodesV.get l 0 (HC.out a rfl).2 j hjl
        rw [Nat.zero_add] at e0 e1 e2 e3
        have hab : a.block < w.heap.size := ((HC.out a rfl).1 (nil_not hjl)).2
        have hs : ∀ k, wr.heap[(a.add k).block]? = w.heap[(a.add k).block]? := fun k => by rw [add_block]; exact HB.out.block _ hab
        have d0 := cell_same (hs _) e0
        have d1 := cell_same (hs _) e1
        have d2 := cell_same (hs _) e2
        have d3 := cell_same (hs _) e3
        rw [add_lit _ _ _ (by decide)] at d1 d2 d3
        clear e0 e1 e2 e3 hs
        obtain ⟨o1, n1, s1, x1, l1, c1, hag⟩ := hnode.agg
        cases hag
        have HNODE := Lib.hid hnode
        clear hnode
        have HSN : Hid (depL (l.take (j + 1)) = max (depL (l.take j)) (depT l[j])) := Lib.hid (by rw [List.take_succ_eq_append_getElem hjl, depL_snoc])
        have HBD := Lib.hid (show depL (l.take j) ≤ 1000000 ∧ depL (l.take (j + 1)) ≤ 1000000 by have := depL_take l j; have := depL_take l (j + 1); have := hdd.out; omega)
        have HCH : Hid (∀ W, Below w.heap.size w W → Calls Tryz.prog 19 #[.agg #[.string o1, .float .f64 n1, .string s1, .slice x1 l1 c1]] W fun e w' => e = .returned (.int .i64 (depT l[j])) ∧ Below W.heap.size W w') := Lib.hid (fun W hW => by
          have h1 := szL_get l j hjl
          have h2 := HN.out
          have h3 := HD.out
          exact HIH.out l[j] (by omega) A _ W (by omega) (HNODE.out.below hW))
        obtain ⟨P1, hP1⟩ : ∃ P1, P1 = depL (l.take j) := ⟨_, rfl⟩
        obtain ⟨P2, hP2⟩ : ∃ P2, P2 = depL (l.take (j + 1)) := ⟨_, rfl⟩
        obtain ⟨P3, hP3⟩ : ∃ P3, P3 = depT l[j] := ⟨_, rfl⟩
        rw [← hP1, ← hP2] at HBD
        rw [← hP1, ← hP2, ← hP3] at HSN
        rw [← hP3] at HCH
        rw [← hP1]
        have HP2 := Lib.hid hP2
        have hmx : max (P1 : Int) (P3 : Int) = (P2 : Int) := by have := HSN.out; omega
        clear hP1 hP2 hP3
        go_wp2_with (first | (go_at_call 19; fail))
        refine (HCH.out _ HB.out).mono ?_
        rintro e w2 ⟨rfl, hb2⟩
        have HB2 := Lib.hid (HB.out.trans (below_le hb2 HB.out.size))
        have HNB2 := Lib.hid (HNB.out.below hb2)
        clear hb2 d0 d1 d2 d3
        go_wp2
        go_roundg (gk - 1)
        case measure => omega
        case rel => exact ⟨j + 1, by omega, by go_num, by rw [← HP2.out], HB2, HNB2⟩
      · have e : j = l.length := by have := HNL.out; omega
        rw [show l.take j = l by rw [e, List.take_length]]
        have hd2 := hdd.out
        obtain ⟨D, hD⟩ : ∃ D, D = depL l := ⟨_, rfl⟩
        have HDV := Lib.hid hD
        rw [← hD] at hd2 ⊢
        clear e hD
        go_wp2
        go_ret
        exact ⟨by rw [← HDV.out]; rfl, HB.out⟩
end Go.Proofs.YtfalcmbjjlgoaaaGreatDoor
/- Walks: shaped, typed. -/
namespace Go.Proofs.YtfalcmbjjlgoaaaGreatDoor
open Go.RowKit Go.Shelf
attribute [local go_sem] run_store_float
set_option maxRecDepth 100000 in
set_option maxHeartbeats 4000000 in
theorem wshaped (A : Nat → Prop) (v : Value) (op s : Bs) (fn : Nat) (l : List Tree) (w : World) (hv : NodeV A w v (.mk op fn s l)) : Calls Tryz.prog 24 #[v] w fun e w' => e = .returned (.bool (decide (takesT op = some l.length))) ∧ Below w.heap.size w w' := by
  obtain ⟨x, cap, rfl, hcap, _⟩ := hv
  have HA := Lib.hid (fun W => warity op W)
  have HAL := Lib.hid (fun o => bel1 w o)
  obtain ⟨N, hN⟩ : ∃ N, N = l.length := ⟨_, rfl⟩
  rw [← hN] at hcap ⊢
  clear hN
  cases hk : takesT op with
  | none =>
    rw [hk] at HA
    have HR : Hid (decide ((none : Option Nat) = some N) = false) := Lib.hid (by simp)
    clear hk
    go_enter Tryz.func24, Tryz.ntmps24
    go_wp2_with (first | (go_at_call 41; refine (HA.out _).mono ?_; rintro e w1 ⟨rfl, rfl⟩))
    go_ret
    exact ⟨ret_bool HR.out.symm, HAL.out _⟩
  | some k =>
    rw [hk] at HA
    have HR : Hid (((k : Int) == (N : Int)) = decide ((some k : Option Nat) = some N)) := Lib.hid (by
      by_cases e : k = N
      · simp [e]
      · have h1 : ((k : Int) == (N : Int)) = false := by simpa using (show ¬ ((k : Int) = (N : Int)) by omega)
        rw [h1]
        simp [e])
    have HK : Hid (Calls Tryz.prog 41 #[.string (tx op)] (w.alloc (.cells #[.string (tx op), .float .f64 fn, .string (tx s), .slice x N cap] 25)) fun e w' => e = .returned (.tuple #[.int .i64 k, .bool true]) ∧ (w.alloc (.cells #[.string (tx op), .float .f64 fn, .string (tx s), .slice x N cap] 25)) = w') := Lib.hid (HA.out _)
    clear hk HA
    go_enter Tryz.func24, Tryz.ntmps24
    go_wp2_with (first | (go_at_call 41; refine (HK.out).mono ?_; rintro e w1 ⟨rfl, rfl⟩))
    go_ret
    exact ⟨ret_bool HR.out, HAL.out _⟩
theorem info_ty : ∃ i0, Tryz.prog.info? 38 = some i0 ∧ i0.zero = some (.int .i64 0) ∧ i0.size = 1 ∧ i0.bytes = 8 :=
  info_parts (show (Tryz.prog.info? 38).map (fun i => (i.zero, i.size, i.bytes)) = some (some (.int .i64 0), 1, 8) by kernel_rfl)
def tysV (l : List Nat) : List Value := l.map fun k => Value.int .i64 (k : Nat)
theorem tyV_row {n0 : Nat} {w : World} {v : Value} {l : List Nat} (h : w.ownsRow n0 38 1 v l.length (tysV l)) : TyV w v l := by
  have hc := fun g (hg : v.ownBlock = some g) => h.cells hg
  rcases h.2 with ⟨rfl, h3⟩ | ⟨g, cap, cur, rfl, _, _, hcap, _⟩
  · have : l = [] := List.length_eq_zero_iff.1 h3
    subst this
    exact ⟨none, 0, rfl, Nat.le_refl _, fun _ => rfl, fun a ha => by cases ha⟩
  · refine ⟨some ⟨g, 0, none⟩, cap, rfl, hcap, (fun e => by cases e), fun a ha i t hi => ?_⟩
    cases ha
    exact hc g rfl _ _ (by unfold tysV; rw [List.getElem?_map, hi]; rfl)
theorem bound_t {L : List Bnd} {s : Bs} {v : Vl} (h : boundV L s = some v) : v.t = 1 ∨ v.t = 2 ∨ v.t = 3 := by
  unfold boundV at h
  split at h
  · cases h
  · unfold plainV at h
    split at h
    · cases h; exact .inl rfl
    · split at h
      · cases h; exact .inr (.inl rfl)
      · split at h
        · cases h; exact .inr (.inr rfl)
        · cases h
/-- A tree's type, its parts' types being known. -/
theorem tyT_good (L : List Bnd) (op s : Bs) (fn : Nat) (c : List Tree) (h : ∀ i (hi : i < c.length), (tyT L c[i]).2 = 0) : tyT L (.mk op fn s c) =
    if takesT op ≠ some c.length then (0, 190) else if op = wnum then (1, 0) else if op = wtext then (2, 0)
    else if op = wname then (match boundV L s with | none => (0, 6) | some v => (v.t.toNat, 0))
    else if madeT op (c.map (fun t => (tyT L t).1)) = 0 then (0, 190) else (madeT op (c.map (fun t => (tyT L t).1)), 0) := by
  rw [tyT, tyL_good L c h]
  rfl
theorem tyT_bad (L : List Bnd) (op s : Bs) (fn : Nat) (c : List Tree) (j : Nat) (hj : j < c.length) (h : ∀ i (hi : i < c.length), i < j → (tyT L c[i]).2 = 0) (hb : (tyT L c[j]).2 ≠ 0) : tyT L (.mk op fn s c) = (0, (tyT L c[j]).2) := by
  rw [tyT, tyL_bad L c j hj h hb, if_pos hb]
set_option maxRecDepth 100000 in
set_option maxHeartbeats 8000000 in
theorem wtyped (L : List Bnd) (hLL : L.length ≤ 1000000) (vb : Value) : ∀ (n : Nat) (t : Tree), szT t ≤ n → ∀ (A : Nat → Prop) (v : Value) (w : World), szT t ≤ 1000000 → NodeV A w v t → BndV w vb L →
    Calls Tryz.prog 28 #[v, vb] w fun e w' => e = .returned (.tuple #[.int .i64 ((tyT L t).1 : Nat), .int .i64 ((tyT L t).2 : Nat)]) ∧ Below w.heap.size w w' := by
  intro n
  induction n with
  | zero => intro t h; cases t; simp only [szT] at h; omega
  | succ n ih =>
    intro t hn A v w hd hv hbv
    obtain ⟨op, fn, s, l⟩ := t
    have HV := Lib.hid hv
    have HBV := Lib.hid hbv
    obtain ⟨bx, bn, bc, rfl⟩ := hbv.agg
    obtain ⟨x, cap, rfl, hcap, hx, hch⟩ := hv
    have HIH := Lib.hid ih
    have HN := Lib.hid (show szL l ≤ n by simp only [szT] at hn; omega)
    have HD := Lib.hid (show 1 + szL l ≤ 1000000 by simpa only [szT] using hd)
    have HC := Lib.hid hch
    have hll : l.length ≤ 1000000 := by have := len_szL l; have := HD.out; omega
    have HX := Lib.hid hx
    obtain ⟨R, hR⟩ : ∃ R, R = tyT L (.mk op fn s l) := ⟨_, rfl⟩
    rw [← hR]
    have HR := Lib.hid hR
    have HLL := Lib.hid hLL
    obtain ⟨N, hN⟩ : ∃ N, N = l.length := ⟨_, rfl⟩
    rw [← hN] at hll hcap HV ⊢
    have HNL := Lib.hid hN
    obtain ⟨i0, hi, hi0, hi1, hi2⟩ := info_ty
    have HII := Lib.hid (And.intro hi (And.intro hi0 (And.intro hi1 hi2)))
    have HB0 := Lib.hid (((Below.refl w.heap.size w).alloc (Nat.le_refl _) (.cells #[.string (tx op), .float .f64 fn, .string (tx s), .slice x N cap] 25)).alloc (by simp) (.cells #[.int .i64 0, .int .i64 0] 38))
    have HA0 : Hid (NB ((w.alloc (.cells #[.string (tx op), .float .f64 fn, .string (tx s), .slice x N cap] 25)).alloc (.cells #[.int .i64 0, .int .i64 0] 38)) w.heap.size (.agg #[.string (tx op), .float .f64 fn, .string (tx s), .slice x N cap])) := Lib.hid
      ((show NB (w.alloc (.cells #[.string (tx op), .float .f64 fn, .string (tx s), .slice x N cap] 25)) w.heap.size _ from ⟨_, _, _, _, rfl, heap_alloc_new _ _⟩).below ((Below.refl _ _).alloc (Nat.le_refl _) _))
    have HO0 : Hid (((w.alloc (.cells #[.string (tx op), .float .f64 fn, .string (tx s), .slice x N cap] 25)).alloc (.cells #[.int .i64 0, .int .i64 0] 38)).ownsRow (w.heap.size + 1) 38 1 (.slice (some ⟨w.heap.size + 1, 0, none⟩) 0 2) 0 []) := Lib.hid (by
      have := World.ownsRow_made (w.alloc (.cells #[.string (tx op), .float .f64 fn, .string (tx s), .slice x N cap] 25)) (base := w.heap.size + 1) (e := 38) (size := 1) #[.int .i64 0, .int .i64 0] 2 (by simp) (by decide) rfl
      simpa using this)
    clear hN hn hd hch hx ih hR hbv hi hi0 hi1 hi2 hLL
    go_enter Tryz.func28, Tryz.ntmps28
    have hmk : ∀ w : World, (Instr.makeSlice 76 (.int .i64 0) (.int .i64 2)).run Tryz.prog w = .ok (.slice (some ⟨w.heap.size, 0, none⟩) 0 2) (w.alloc (.cells #[.int .i64 0, .int .i64 0] 38)) := fun _ => by kernel_rfl
    go_wp2_with fail
    clear hmk
    generalize ((w.alloc (.cells #[.string (tx op), .float .f64 fn, .string (tx s), .slice x N cap] 25)).alloc (.cells #[.int .i64 0, .int .i64 0] 38)) = W0 at HB0 HA0 HO0 ⊢
    go_loopg [6, 18] N (fun gh kv i wr => ∃ j : Nat, j + gh = N ∧ i = .int .i64 j ∧ Hid (∀ i (hi : i < l.length), i < j → (tyT L l[i]).2 = 0) ∧ Hid (wr.ownsRow (w.heap.size + 1) 38 1 kv j (tysV ((l.take j).map (fun t => (tyT L t).1)))) ∧ Hid (NB wr w.heap.size (.agg #[.string (tx op), .float .f64 fn, .string (tx s), .slice x N cap])) ∧ Hid (Below w.heap.size w wr))
    case atStart => exact ⟨0, by omega, rfl, Lib.hid (fun i _ h => by omega), HO0, HA0, HB0⟩
    case round =>
      obtain ⟨j, hj, rfl, HG, HO, HNB, HB⟩ := hrel
      obtain ⟨p0, p1, p2, p3, _⟩ := HNB.out.cells
      have hbl := HNB.out.lt
      obtain ⟨kx, kc, rfl⟩ := ownsRow_is HO.out
      clear HA0 HO0 HB0
      by_cases q : j < N
      · have hjl : j < l.length := by have := HNL.out; omega
        obtain ⟨a, rfl⟩ : ∃ a, x = some a := by
          cases x with
          | none => have := HX.out rfl; rw [this] at hjl; cases hjl
          | some a => exact ⟨a, rfl⟩
        obtain ⟨v0, v1, v2, v3, e0, e1, e2, e3, hnode⟩ := NodesV.get l 0 (HC.out a rfl).2 j hjl
        rw [Nat.zero_add] at e0 e1 e2 e3
        have hab : a.block < w.heap.size := ((HC.out a rfl).1 (nil_not hjl)).2
        have hs : ∀ k, wr.heap[(a.add k).block]? = w.heap[(a.add k).block]? := fun k => by rw [add_block]; exact HB.out.block _ hab
        have d0 := cell_same (hs _) e0
        have d1 := cell_same (hs _) e1
        have d2 := cell_same (hs _) e2
        have d3 := cell_same (hs _) e3
        rw [add_lit _ _ _ (by decide)] at d1 d2 d3
        clear e0 e1 e2 e3 hs
        obtain ⟨o1, n1, s1, x1, l1, c1, hag⟩ := hnode.agg
        cases hag
        have HNODE := Lib.hid hnode
        clear hnode
        obtain ⟨K1, hK1⟩ : ∃ K, K = (tyT L l[j]).1 := ⟨_, rfl⟩
        obtain ⟨E1, hE1⟩ : ∃ E, E = (tyT L l[j]).2 := ⟨_, rfl⟩
        have HCH : Hid (∀ W, Below w.heap.size w W → Calls Tryz.prog 28 #[.agg #[.string o1, .float .f64 n1, .string s1, .slice x1 l1 c1], .slice bx bn bc] W fun e w' => e = .returned (.tuple #[.int .i64 (K1 : Nat), .int .i64 (E1 : Nat)]) ∧ Below W.heap.size W w') := Lib.hid (fun W hW => by
          have h1 := szL_get l j hjl
          have h2 := HN.out
          have h3 := HD.out
          rw [hK1, hE1]
          exact HIH.out l[j] (by omega) A _ W (by omega) (HNODE.out.below hW) (HBV.out.below hW))
        have HB1 := Lib.hid (HB.out.alloc HB.out.size (.cells #[.string o1, .float .f64 n1, .string s1, .slice x1 l1 c1] 25))
        have HNB1 := Lib.hid (HNB.out.below ((Below.refl _ _).alloc (Nat.le_refl _) (.cells #[.string o1, .float .f64 n1, .string s1, .slice x1 l1 c1] 25)))
        have HO1 := Lib.hid (HO.out.alloc (.cells #[.string o1, .float .f64 n1, .string s1, .slice x1 l1 c1] 25))
        by_cases qe : E1 = 0
        · have HG2 : Hid (∀ i (hi : i < l.length), i < j + 1 → (tyT L l[i]).2 = 0) := Lib.hid (fun i hi hij => by
            by_cases e : i = j
            · subst e; rw [← hE1]; exact qe
            · exact HG.out i hi (by omega))
          have HTS : Hid (tysV ((l.take (j + 1)).map (fun t => (tyT L t).1)) = tysV ((l.take j).map (fun t => (tyT L t).1)) ++ [.int .i64 (K1 : Nat)]) := Lib.hid (by rw [List.take_succ_eq_append_getElem hjl, List.map_append, hK1]; unfold tysV; rw [List.map_append]; rfl)
          subst qe
          have HCH0 : Hid (Calls Tryz.prog 28 #[.agg #[.string o1, .float .f64 n1, .string s1, .slice x1 l1 c1], .slice bx bn bc] (wr.alloc (.cells #[.string o1, .float .f64 n1, .string s1, .slice x1 l1 c1] 25)) fun e w' => e = .returned (.tuple #[.int .i64 (K1 : Nat), .int .i64 0]) ∧ Below (wr.alloc (.cells #[.string o1, .float .f64 n1, .string s1, .slice x1 l1 c1] 25)).heap.size (wr.alloc (.cells #[.string o1, .float .f64 n1, .string s1, .slice x1 l1 c1] 25)) w') := Lib.hid (HCH.out _ HB1.out)
          clear hK1 hE1 HG HCH HNB HB HO HNODE
          go_wp2_with (first | (go_at_call 28; fail))
          refine (HCH0.out).mono ?_
          rintro e w2 ⟨rfl, hb2⟩
          have HB2 := Lib.hid (HB1.out.trans (below_le hb2 HB1.out.size))
          have HNB2 := Lib.hid (HNB1.out.below hb2)
          have HO2 := Lib.hid (row_kept HO1.out (fun k hk => hb2.block k (HO1.out.lt k hk).2))
          have hsz2 := HNB2.out.lt
          clear hb2 HB1 HNB1 HO1 HCH0 d0 d1 d2 d3 p0 p1 p2 p3 hbl
          go_wp2_with (first | (at_builtin; go_loud (refine wpList_append_own _ rfl _ _ 76 rfl (w.heap.size + 1) 38 i0 (.int .i64 0) 1 8 Tryz.underlying76 HII.out.1 HII.out.2.1 HII.out.2.2.1 HII.out.2.2.2 rfl (by decide) _ _ _ rfl (HO2.out.alloc _) ⟨w2.heap.size, 0, none⟩ 1 1 [.int .i64 (K1 : Nat)] rfl rfl (cell_one_new _ _ _) (by simp [Value.oneCell']) (by unfold maxLen; omega) (by omega) (by simp; omega) ?_)))
          intro v' w3 ho1 hg1 _
          have HO3 : Hid (w3.ownsRow (w.heap.size + 1) 38 1 v' (j + 1) (tysV ((l.take (j + 1)).map (fun t => (tyT L t).1)))) := Lib.hid (by rw [HTS.out, List.map_take]; exact ho1)
          have HNB3 := Lib.hid ((HNB2.out.below ((Below.refl w2.heap.size w2).alloc (Nat.le_refl _) (.cells #[.int .i64 (K1 : Nat)] 38))).kept (hg1.block w.heap.size (by simp; omega) (fun e => by have := HO2.out.lt w.heap.size e.symm; omega)))
          have HB3 : Hid (Below w.heap.size w w3) := Lib.hid ((HB2.out.alloc HB2.out.size _).grown hg1 (by have := HB2.out.size; simp; omega) (fun k e => by have := HO2.out.lt k e; omega))
          clear ho1 hg1 HB2 HNB2 HO2
          go_wp2
          go_roundg (gk - 1)
          case measure => omega
          case rel => exact ⟨j + 1, by omega, by go_num, HG2, HO3, HNB3, HB3⟩
        · have HRE : Hid (R = (0, E1)) := Lib.hid (by rw [HR.out, tyT_bad L op s fn l j hjl HG.out (by rw [← hE1]; exact qe), hE1])
          have q1 : ((E1 : Int) == 0) = false := by simpa using (show ¬ ((E1 : Int) = 0) by omega)
          clear hK1 hE1 HG HNB HO HNODE HO1 HNB1
          go_wp2_with (first | (go_at_call 28; fail))
          refine (HCH.out _ HB1.out).mono ?_
          rintro e w2 ⟨rfl, hb2⟩
          have HB2 := Lib.hid (HB1.out.trans (below_le hb2 HB1.out.size))
          clear hb2 d0 d1 d2 d3
          go_wp2
          go_ret2
          exact ⟨by rw [HRE.out]; rfl, HB2.out⟩
      · have e : j = l.length := by have := HNL.out; omega
        have HG2 : Hid (∀ i (hi : i < l.length), (tyT L l[i]).2 = 0) := Lib.hid (fun i hi => HG.out i hi (by omega))
        have HRG := Lib.hid (HR.out.trans (tyT_good L op s fn l HG2.out))
        have HTY : Hid (TyV wr (.slice kx j kc) (l.map (fun t => (tyT L t).1))) := Lib.hid (by
          have h := HO.out
          rw [show l.take j = l by rw [e, List.take_length]] at h
          exact tyV_row (by rw [List.length_map, ← e]; exact h))
        have HSH := Lib.hid (wshaped A _ op s fn l wr (HV.out.below HB.out))
        rw [← HNL.out] at HSH HRG
        have HBN := Lib.hid (fun W h => wbound s (.slice bx bn bc) L HLL.out W h)
        have HMD : Hid (takesT op = some N → ∀ W, Below wr.heap.size wr W → Calls Tryz.prog 46 #[.string (tx op), .slice kx j kc] W fun e w' => e = .returned (.int .i64 (madeT op (l.map (fun t => (tyT L t).1)) : Nat)) ∧ Below W.heap.size W w') := Lib.hid (fun ht W hW => by
          refine wmade op _ _ (by rw [List.length_map]; omega) (fun h => ?_) W ?_
          · rw [List.length_map, ← HNL.out]
            rcases h with h | h
            · rw [h, show takesT weq = some 2 from by decide] at ht; cases ht; rfl
            · rw [h, show takesT wne = some 2 from by decide] at ht; cases ht; rfl
          · obtain ⟨y, yc, hy, h1, h2, h3⟩ := HTY.out
            refine ⟨y, yc, hy, h1, h2, fun a ha i t hi => ?_⟩
            have h4 := h3 a ha i t hi
            exact cell_same (hW.block _ (cell_lt h4)) h4)
        clear HO HG HTY HC HIH HG2 e
        by_cases ht : takesT op = some N
        · have HSH1 : Hid (Calls Tryz.prog 24 #[.agg #[.string (tx op), .float .f64 fn, .string (tx s), .slice x N cap]] wr fun e w' => e = .returned (.bool true) ∧ Below wr.heap.size wr w') := Lib.hid (by have h := HSH.out; rw [decide_eq_true ht] at h; exact h)
          have HMD1 := Lib.hid (HMD.out ht)
          rw [if_neg (fun h => h ht)] at HRG
          clear HMD HSH ht
          go_wp2_with (first | (go_at_call 24; fail))
          refine (HSH1.out).mono ?_
          rintro e w2 ⟨rfl, hb2⟩
          have HW2 := Lib.hid hb2
          have HB2 := Lib.hid (HB.out.trans (below_le hb2 HB.out.size))
          obtain ⟨p0, p1, p2, p3, _⟩ := (HNB.out.below hb2).cells
          have hbl2 := (HNB.out.below hb2).lt
          clear hb2 HSH1 HNB HB
          by_cases o0 : op = wnum
          · have b0 : ((tx op).toList == [110, 117, 109]) = true := by rw [o0]; exact tx_same _
            rw [if_pos o0] at HRG
            clear o0
            generalize tx op = T at *
            go_wp2
            go_ret2
            exact ⟨by rw [HRG.out]; rfl, HB2.out⟩
          · have b0 : ((tx op).toList == [110, 117, 109]) = false := tx_ne o0
            rw [if_neg o0] at HRG
            by_cases o1 : op = wtext
            · have b1 : ((tx op).toList == [116, 101, 120, 116]) = true := by rw [o1]; exact tx_same _
              rw [if_pos o1] at HRG
              clear o0 o1
              generalize tx op = T at *
              go_wp2
              go_ret2
              exact ⟨by rw [HRG.out]; rfl, HB2.out⟩
            · have b1 : ((tx op).toList == [116, 101, 120, 116]) = false := tx_ne o1
              rw [if_neg o1] at HRG
              by_cases o2 : op = wname
              · have b2 : ((tx op).toList == [110, 97, 109, 101]) = true := by rw [o2]; exact tx_same _
                rw [if_pos o2] at HRG
                clear o0 o1 o2 HMD1
                generalize tx op = T at *
                cases hbo : boundV L s with
                | none =>
                  rw [hbo] at HRG HBN
                  clear hbo
                  go_wp2_with (first | (go_at_call 45; fail))
                  refine (HBN.out _ (HBV.out.below HB2.out)).mono ?_
                  rintro e w3 ⟨rfl, hb3⟩
                  have HB3 := Lib.hid (fun c => (HB2.out.trans (below_le hb3 HB2.out.size)).alloc (by have := HB2.out.size; have := hb3.size; omega) c)
                  clear hb3
                  unfold bvV
                  go_wp2
                  go_ret2
                  exact ⟨by rw [HRG.out]; rfl, HB3.out _⟩
                | some vl =>
                  have HT3 := Lib.hid (bound_t hbo)
                  rw [hbo] at HRG HBN
                  clear hbo
                  obtain ⟨vt, vn, vs, vb'⟩ := vl
                  go_wp2_with (first | (go_at_call 45; fail))
                  refine (HBN.out _ (HBV.out.below HB2.out)).mono ?_
                  rintro e w3 ⟨rfl, hb3⟩
                  have HB3 := Lib.hid (fun c => (HB2.out.trans (below_le hb3 HB2.out.size)).alloc (by have := HB2.out.size; have := hb3.size; omega) c)
                  clear hb3
                  unfold bvV
                  go_wp2
                  go_ret2
                  refine ⟨?_, HB3.out _⟩
                  rw [HRG.out]
                  have h3 : vt = 1 ∨ vt = 2 ∨ vt = 3 := HT3.out
                  rcases h3 with rfl | rfl | rfl <;> rfl
              · have b2 : ((tx op).toList == [110, 97, 109, 101]) = false := tx_ne o2
                rw [if_neg o2] at HRG
                obtain ⟨M, hM⟩ : ∃ M, M = madeT op (l.map (fun t => (tyT L t).1)) := ⟨_, rfl⟩
                rw [← hM] at HRG HMD1
                clear o0 o1 o2 hM
                generalize tx op = T at *
                by_cases m0 : M = 0
                · subst m0
                  rw [if_pos rfl] at HRG
                  have HMD2 : Hid (Calls Tryz.prog 46 #[.string T, .slice kx j kc] w2 fun e w' => e = .returned (.int .i64 0) ∧ Below w2.heap.size w2 w') := Lib.hid (HMD1.out _ HW2.out)
                  clear HMD1
                  go_wp2_with (first | (go_at_call 46; fail))
                  refine (HMD2.out).mono ?_
                  rintro e w3 ⟨rfl, hb3⟩
                  have HB3 := Lib.hid (HB2.out.trans (below_le hb3 HB2.out.size))
                  clear hb3
                  go_wp2
                  go_ret2
                  exact ⟨by rw [HRG.out]; rfl, HB3.out⟩
                · rw [if_neg m0] at HRG
                  have m1 : ((M : Int) == 0) = false := by simpa using (show ¬ ((M : Int) = 0) by omega)
                  go_wp2_with (first | (go_at_call 46; fail))
                  refine (HMD1.out _ HW2.out).mono ?_
                  rintro e w3 ⟨rfl, hb3⟩
                  have HB3 := Lib.hid (HB2.out.trans (below_le hb3 HB2.out.size))
                  clear hb3 HMD1
                  go_wp2
                  go_ret2
                  exact ⟨by rw [HRG.out]; rfl, HB3.out⟩
        · have HSH1 : Hid (Calls Tryz.prog 24 #[.agg #[.string (tx op), .float .f64 fn, .string (tx s), .slice x N cap]] wr fun e w' => e = .returned (.bool false) ∧ Below wr.heap.size wr w') := Lib.hid (by have h := HSH.out; rw [decide_eq_false ht] at h; exact h)
          rw [if_pos ht] at HRG
          clear HMD HSH ht
          go_wp2_with (first | (go_at_call 24; fail))
          refine (HSH1.out).mono ?_
          rintro e w2 ⟨rfl, hb2⟩
          have HB2 := Lib.hid (HB.out.trans (below_le hb2 HB.out.size))
          clear hb2
          go_wp2
          go_ret2
          exact ⟨by rw [HRG.out]; rfl, HB2.out⟩
end Go.Proofs.YtfalcmbjjlgoaaaGreatDoor
/- Walks: Print and part: the program's. -/
namespace Go.Proofs.YtfalcmbjjlgoaaaGreatDoor
open Go.RowKit Go.Shelf Ieee Go.Lib
attribute [local go_sem] run_store_float
theorem tx_app (a b : Bs) : tx a ++ tx b = tx (a ++ b) := by unfold tx; apply ByteArray.ext; apply Array.ext'; simp
theorem tx_is {a b : Bs} (h : a = b) : ((tx a).toList == b) = true := by rw [tx_toList]; simpa using h
set_option maxHeartbeats 2000000 in
theorem walone (op : Bs) (w : World) : Calls Tryz.prog 44 #[.string (tx op)] w fun e w' => e = .returned (.bool (aloneB op)) ∧ w = w' := by
  by_cases q0 : op = wnum
  · have b0 : ((tx op).toList == [110, 117, 109]) = true := tx_is q0
    have HA : Hid (aloneB op = true) := Lib.hid (by unfold aloneB; simp [q0])
    clear q0
    go_enter Tryz.func44, Tryz.ntmps44
    go_wp2
    go_ret
    exact ⟨by rw [HA.out]; rfl, rfl⟩
  · have b0 : ((tx op).toList == [110, 117, 109]) = false := tx_ne q0
    by_cases q1 : op = wtext
    · have b1 : ((tx op).toList == [116, 101, 120, 116]) = true := tx_is q1
      have HA : Hid (aloneB op = true) := Lib.hid (by unfold aloneB; simp [q1])
      clear q1
      go_enter Tryz.func44, Tryz.ntmps44
      go_wp2
      go_ret
      exact ⟨by rw [HA.out]; rfl, rfl⟩
    · have b1 : ((tx op).toList == [116, 101, 120, 116]) = false := tx_ne q1
      by_cases q2 : op = wname
      · have b2 : ((tx op).toList == [110, 97, 109, 101]) = true := tx_is q2
        have HA : Hid (aloneB op = true) := Lib.hid (by unfold aloneB; simp [q2])
        clear q2
        go_enter Tryz.func44, Tryz.ntmps44
        go_wp2
        go_ret
        exact ⟨by rw [HA.out]; rfl, rfl⟩
      · have b2 : ((tx op).toList == [110, 97, 109, 101]) = false := tx_ne q2
        by_cases q3 : op = wlen
        · have b3 : ((tx op).toList == [108, 101, 110]) = true := tx_is q3
          have HA : Hid (aloneB op = true) := Lib.hid (by unfold aloneB; simp [q3])
          clear q3
          go_enter Tryz.func44, Tryz.ntmps44
          go_wp2
          go_ret
          exact ⟨by rw [HA.out]; rfl, rfl⟩
        · have b3 : ((tx op).toList == [108, 101, 110]) = false := tx_ne q3
          by_cases q4 : op = wabs
          · have b4 : ((tx op).toList == [97, 98, 115]) = true := tx_is q4
            have HA : Hid (aloneB op = true) := Lib.hid (by unfold aloneB; simp [q4])
            clear q4
            go_enter Tryz.func44, Tryz.ntmps44
            go_wp2
            go_ret
            exact ⟨by rw [HA.out]; rfl, rfl⟩
          · have b4 : ((tx op).toList == [97, 98, 115]) = false := tx_ne q4
            by_cases q5 : op = whas
            · have b5 : ((tx op).toList == [104, 97, 115]) = true := tx_is q5
              have HA : Hid (aloneB op = true) := Lib.hid (by unfold aloneB; simp [q5])
              clear q5
              go_enter Tryz.func44, Tryz.ntmps44
              go_wp2
              go_ret
              exact ⟨by rw [HA.out]; rfl, rfl⟩
            · have b5 : ((tx op).toList == [104, 97, 115]) = false := tx_ne q5
              have HA : Hid (aloneB op = false) := Lib.hid (by unfold aloneB; simp [q0, q1, q2, q3, q4, q5])
              clear q0  q1  q2  q3  q4  q5
              go_enter Tryz.func44, Tryz.ntmps44
              go_wp2
              go_ret
              exact ⟨by rw [HA.out]; rfl, rfl⟩
/-- What a part of a text is, its own text being known. -/
def PrC (F : FuncId) (w : World) (v : Value) (r : Bs) : Prop := ∀ W, Below w.heap.size w W → Calls Tryz.prog F #[v] W fun e w' => e = .returned (.string (tx r)) ∧ Below W.heap.size W w'
theorem PrC.below {F : FuncId} {w w' : World} {v : Value} {r : Bs} (h : PrC F w v r) (hb : Below w.heap.size w w') : PrC F w' v r := fun W hW => h W (hb.trans (below_le hW hb.size))
set_option maxRecDepth 100000 in
set_option maxHeartbeats 4000000 in
theorem wpart (op : Bs) (fn : Nat) (s : ByteArray) (x : Option Addr) (l c : Nat) (r : Bs) (hr : r.length ≤ 1000000) (w : World) (H : PrC 9 w (.agg #[.string (tx op), .float .f64 fn, .string s, .slice x l c]) r) :
    Calls Tryz.prog 26 #[.agg #[.string (tx op), .float .f64 fn, .string s, .slice x l c]] w fun e w' => e = .returned (.string (tx (parS op r))) ∧ Below w.heap.size w w' := by
  have HA := Lib.hid (fun W => walone op W)
  have HB0 := Lib.hid (bel1 w (.cells #[.string (tx op), .float .f64 fn, .string s, .slice x l c] 25))
  have HNB : Hid (NB (w.alloc (.cells #[.string (tx op), .float .f64 fn, .string s, .slice x l c] 25)) w.heap.size (.agg #[.string (tx op), .float .f64 fn, .string s, .slice x l c])) := Lib.hid ⟨_, _, _, _, rfl, heap_alloc_new _ _⟩
  have HH := Lib.hid H
  clear H
  go_enter Tryz.func26, Tryz.ntmps26
  go_upto_region 1 with (fail)
  generalize w.alloc (.cells #[.string (tx op), .float .f64 fn, .string s, .slice x l c] 25) = W0 at HB0 HNB ⊢
  obtain ⟨p0, p1, p2, p3, _⟩ := HNB.out.cells
  have hlt := HNB.out.lt
  have HC := Lib.hid (HH.out W0 HB0.out)
  cases hal : aloneB op with
  | true =>
    have HR : Hid (parS op r = r) := Lib.hid (by unfold parS; rw [if_pos hal])
    rw [hal] at HA
    clear hal
    go_wp2_with (first | (go_at_call 44; refine (HA.out _).mono ?_; rintro e w1 ⟨rfl, rfl⟩) | (go_at_call 9; fail))
    go_at_call 9
    refine HC.out.mono ?_
    rintro e w2 ⟨rfl, hb2⟩
    have HB2 := Lib.hid (HB0.out.trans (below_le hb2 HB0.out.size))
    clear hb2
    go_wp2
    go_ret
    exact ⟨by rw [HR.out]; rfl, HB2.out⟩
  | false =>
    have HR : Hid (({ data := #[40] } : ByteArray) ++ tx r ++ ({ data := #[41] } : ByteArray) = tx (parS op r)) := Lib.hid (by
      unfold parS; rw [if_neg (by rw [hal]; decide)]
      show tx [40] ++ tx r ++ tx [41] = _
      rw [tx_app, tx_app])
    rw [hal] at HA
    clear hal
    have z1 : (tx r).size = r.length := tx_size' r
    have z2 : (({ data := #[40] } : ByteArray) ++ tx r).size = r.length + 1 := by
      show (tx [40] ++ tx r).size = _
      rw [tx_app, tx_size']; simp
    go_wp2_with (first | (go_at_call 44; refine (HA.out _).mono ?_; rintro e w1 ⟨rfl, rfl⟩) | (go_at_call 9; fail))
    go_at_call 9
    refine HC.out.mono ?_
    rintro e w2 ⟨rfl, hb2⟩
    have HB2 := Lib.hid (HB0.out.trans (below_le hb2 HB0.out.size))
    clear hb2
    go_wp2
    go_ret
    exact ⟨ret_str HR.out, HB2.out⟩
end Go.Proofs.YtfalcmbjjlgoaaaGreatDoor
