/- Walk: read. -/
import Derived.Test.YtmhfnpabgkkjaaaQI
import Derived.Defers
import Derived.Recover
import Derived.Tactics2
import Derived.Laws.Pointers
namespace Go.Proofs.Ytmhfnpabgkkjaaa
open Go.RowKit Go.Shelf
attribute [local go_sem] run_store_float
/-- What reading a whole text gives. -/
def readP (l : Bs) : Option Tree :=
  if (lex l).1 = [] ∧ (lex l).2 = false then none
  else match P valV (lex l).2 (12 * (lex l).1.length + 11) .or (lex l).1 with
  | some (t, []) => some t
  | _ => none
abbrev zeroN : Value := .agg #[.string ⟨#[]⟩, .float .f64 0, .string ⟨#[]⟩, .slice none 0 0]
set_option maxRecDepth 100000 in
theorem catch_yes (g h : Nat) (z b : Value) (pv : Value) (older : List PanicEntry) (w : World) (hg : NB w g z) (hb : w.heap[h]? = some (.cells #[b] 4 (0, 0))) (hgh : g ≠ h) :
    CallsD Try.prog 16 #[.pointer (some ⟨g, 0, none⟩), .pointer (some ⟨h, 0, none⟩)] (.panicking ({ v := .iface 57 pv, recovered := false } :: older)) w fun e u' w' =>
      e = .returned (.tuple #[]) ∧ u' = .panicking ({ v := .iface 57 pv, recovered := true } :: older) ∧ w' = (putN w g (.string ⟨#[]⟩) (.float .f64 0) (.string ⟨#[]⟩) (.slice none 0 0)).setCell ⟨h, 0, none⟩ (.bool false) := by
  refine callsD_of_wpS Try.func16 rfl fun c₀ cs hu => ?_
  apply wpS_seq
  apply wpS_region
  simp [wpOpsS, go_sem, recoverD, hu, Try.ntmps16, Exit.thenS]
  refine wpS_cond (t := true) (by simp [Act.eval, Array.replicate]) ?_
  simp only [if_true]
  apply wpS_region
  obtain ⟨v0, v1, v2, v3, rfl, hh⟩ := hg
  obtain ⟨c0, c1, c2, c3, cf⟩ := NB.cells (v0 := v0) (v1 := v1) (v2 := v2) (v3 := v3) ⟨_, _, _, _, rfl, hh⟩
  have d0 : w.cell? ⟨h, 0, none⟩ = some b := by simp [World.cell?, hb]
  have df : w.frozen? ⟨h, 0, none⟩ = false := by simp [World.frozen?, hb]
  have hgh2 : h ≠ g := fun e => hgh e.symm
  simp [wpOpsS, go_sem, c0, c1, c2, c3, cf, d0, df, bodyPostS, results, Try.results16]
  rfl
theorem catch_no (g h : Nat) (w : World) :
    CallsD Try.prog 16 #[.pointer (some ⟨g, 0, none⟩), .pointer (some ⟨h, 0, none⟩)] .returning w fun e u' w' => e = .returned (.tuple #[]) ∧ u' = .returning ∧ w' = w := by
  refine callsD_of_wpS Try.func16 rfl fun c₀ cs hu => ?_
  apply wpS_seq
  apply wpS_region
  simp [wpOpsS, go_sem, recoverD, hu, Try.ntmps16, Exit.thenS]
  refine wpS_cond (t := false) (by simp [Act.eval, Array.replicate]) ?_
  simp only [Bool.false_eq_true, if_false]
  refine wpS_of_wp (wp_skip ?_)
  cases c₀
  simp_all [bodyPostS, results, Try.results16]
theorem alloc_new1 (w : World) (o1 o2 : Obj) : ((w.alloc o1).alloc o2).heap[w.heap.size + 1]? = some o2 := by
  have h := heap_alloc_new (w.alloc o1) o2
  rwa [show (w.alloc o1).heap.size = w.heap.size + 1 by simp] at h
theorem alloc_new2 (w : World) (o1 o2 o3 : Obj) : (((w.alloc o1).alloc o2).alloc o3).heap[w.heap.size + 2]? = some o3 := by
  have h := heap_alloc_new ((w.alloc o1).alloc o2) o3
  rwa [show ((w.alloc o1).alloc o2).heap.size = w.heap.size + 2 by simp] at h
theorem read_res (tmps : Array Value) (w : World) (g h : Nat) (v0 v1 v2 v3 b : Value) (hp : tmps.getD 2 undef = .pointer (some ⟨g, 0, none⟩)) (hq : tmps.getD 3 undef = .pointer (some ⟨h, 0, none⟩))
    (hg : w.heap[g]? = some (.cells #[v0, v1, v2, v3] 38 (0, 0))) (hb : w.heap[h]? = some (.cells #[b] 4 (0, 0))) : (results Try.f12 tmps).run Try.prog w = .ok (.tuple #[.agg #[v0, v1, v2, v3], b]) w := by
  have hp' : tmps[2]?.getD undef = .pointer (some ⟨g, 0, none⟩) := by simpa using hp
  have hq' : tmps[3]?.getD undef = .pointer (some ⟨h, 0, none⟩) := by simpa using hq
  have d0 : w.cell? ⟨h, 0, none⟩ = some b := by simp [World.cell?, hb]
  have hl := run_loadVar_row (P := Try.prog) w g 38 38 #[v0, v1, v2, v3] (0, 0) _ hg Try.underlying38 rfl (by kernel_rfl)
  have hl2 : (loadVar 4 ⟨h, 0, none⟩).run Try.prog w = .ok b w := by simp [go_sem, d0]
  simp [results, Try.results12, hp', hq', asAddr, hl, hl2]
theorem below_but {n r : Nat} {w a b : World} (h : Below n w a) (k : But [r] a b) (hr : n ≤ r) (hn : n ≤ a.heap.size) : Below n w b :=
  ⟨k.os.trans h.os, k.tape.trans h.tape, k.output.trans h.output, Nat.le_trans h.size k.size, fun j hj => (k.block j (by omega) (by simp; omega)).trans (h.block j hj)⟩
theorem below_put {n g : Nat} {w a : World} {v0 v1 v2 v3 : Value} (h : Below n w a) (hg : n ≤ g) : Below n w (putN a g v0 v1 v2 v3) :=
  (((h.setCell (show n ≤ (⟨g, 0, none⟩ : Addr).block from hg) v0).setCell (show n ≤ (⟨g, 1, none⟩ : Addr).block from hg) v1).setCell (show n ≤ (⟨g, 2, none⟩ : Addr).block from hg) v2).setCell (show n ≤ (⟨g, 3, none⟩ : Addr).block from hg) v3
/-- What read ends in. -/
def ReadEnd (l : Bs) (w : World) (e : Ending) (w' : World) : Prop := Below w.heap.size w w' ∧
  ((readP l = none ∧ e = .returned (.tuple #[zeroN, .bool false])) ∨ ∃ t v, readP l = some t ∧ e = .returned (.tuple #[v, .bool true]) ∧ NodeV (fun b => w.heap.size ≤ b) w' v t)
/-- Before the reading begins. -/
def readW (l : Bs) (w : World) : World := ((w.alloc (.cells #[.string ⟨#[]⟩, .float .f64 0, .string ⟨#[]⟩, .slice none 0 0] 38)).alloc (.cells #[.bool false] 4)).alloc (.cells #[.string (tx l), .int .i64 0, .int .i64 0, .string ⟨#[]⟩] 54)
set_option maxRecDepth 100000 in
set_option maxHeartbeats 4000000 in
theorem wread (l : Bs) (hl : l.length ≤ 1000000) (w : World) : Calls Try.prog 12 #[.string (tx l)] w (ReadEnd l w) := by
  have hmf : ∀ (fn : Fn) (first cap : Array Value) (w : World), (Instr.makeFunc fn first cap).run Try.prog w = .ok (.func fn first cap) w := fun _ _ _ _ => rfl
  have HR : Hid (Rd (readW l w) (w.heap.size + 2) l 0 0 []) := Lib.hid (alloc_new2 w _ _ _)
  have HNX : Hid (Calls Try.prog 17 #[.pointer (some ⟨w.heap.size + 2, 0, none⟩)] (readW l w) fun e w' => But [w.heap.size + 2] (readW l w) w' ∧ (((lex l).1 = [] ∧ (lex l).2 = false ∧ Pan e) ∨ (¬ ((lex l).1 = [] ∧ (lex l).2 = false) ∧ e = .returned (.tuple #[]) ∧ St (w.heap.size + 2) l (lex l).2 (lex l).1 w'))) :=
    Lib.hid (wqstep (w.heap.size + 2) l (lex l).2 (lex l).1 0 0 [] hl (Nat.zero_le _) (readW l w) HR.out (by simp))
  have HL := Lib.hid hl
  have HP : Hid (readP l = if (lex l).1 = [] ∧ (lex l).2 = false then none
      else match P valV (lex l).2 (12 * (lex l).1.length + 11) .or (lex l).1 with
      | some (t, []) => some t
      | _ => none) := Lib.hid rfl
  have HOR := Lib.hid (fun W h => wreadOr l (lex l).2 hl (12 * (lex l).1.length + 11) (w.heap.size + 2) (lex l).1 W (Nat.le_refl _) h)
  have HG : Hid (NB (readW l w) w.heap.size zeroN ∧ (readW l w).heap[w.heap.size + 1]? = some (.cells #[.bool false] 4 (0, 0)) ∧ Below w.heap.size w (readW l w) ∧ (readW l w).heap.size = w.heap.size + 3) := Lib.hid (by
    refine ⟨⟨_, _, _, _, rfl, ?_⟩, ?_, ?_, by simp [readW]⟩
    · unfold readW
      rw [heap_alloc_old _ _ (by simp; omega), heap_alloc_old _ _ (by simp)]
      exact heap_alloc_new _ _
    · unfold readW
      rw [heap_alloc_old _ _ (by simp)]
      exact alloc_new1 w _ _
    · exact (((Below.refl _ _).alloc (Nat.le_refl _) _).alloc (by simp) _).alloc (by simp; omega) _)
  unfold readW at HNX HG
  clear hl HR
  go_enter_defers Try.func12, Try.ntmps12
  go_wp2_with (first | (go_at_call 17; fail))
  refine (HNX.out).mono ?_
  rintro e w1 ⟨hb1, ⟨h1, h2, rfl⟩ | ⟨h1, rfl, hst1⟩⟩
  · have hz := HG.out.1.but hb1 (by omega)
    have hf := hb1.heap HG.out.2.1 (by simp)
    refine leaves_cons (f := 16) (args := #[.pointer (some ⟨w.heap.size, 0, none⟩), .pointer (some ⟨w.heap.size + 1, 0, none⟩)]) (by simp) rfl ?_
    refine (catch_yes w.heap.size (w.heap.size + 1) zeroN (.bool false) _ [] _ hz hf (by omega)).mono ?_
    rintro e u' w2 ⟨rfl, rfl, rfl⟩
    simp only [settle]
    have hz2 := hz.put (v0 := .string ⟨#[]⟩) (v1 := .float .f64 0) (v2 := .string ⟨#[]⟩) (v3 := .slice none 0 0)
    refine ⟨_, read_res _ _ w.heap.size (w.heap.size + 1) _ _ _ _ _ rfl rfl ((set_other (by omega)).trans hz2.heap) (set_block ((putN_other (by omega)).trans hf) _), ?_⟩
    refine ⟨?_, .inl ⟨by rw [HP.out, if_pos ⟨h1, h2⟩], rfl⟩⟩
    exact (below_put (below_but HG.out.2.2.1 hb1 (by omega) (by have := HG.out.2.2.2; omega)) (Nat.le_refl _)).setCell (by simp) _
  · have H1 := Lib.hid (And.intro h1 (And.intro hb1 hst1))
    have HZ1 := Lib.hid (HG.out.1.but hb1 (by omega))
    have HF1 := Lib.hid (hb1.heap HG.out.2.1 (by simp))
    clear h1 hb1 hst1
    go_wp2_with (first | (go_at_call 18; fail))
    go_at_call 18
    refine (HOR.out _ H1.out.2.2).mono ?_
    rintro e w2 ⟨hb2, ⟨h2, rfl⟩ | ⟨t, ts', v, h2, rfl, hv, hst2⟩⟩
    · have hz := HZ1.out.but hb2 (by omega)
      have hf := hb2.heap HF1.out (by simp)
      refine leaves_cons (f := 16) (args := #[.pointer (some ⟨w.heap.size, 0, none⟩), .pointer (some ⟨w.heap.size + 1, 0, none⟩)]) (by simp) rfl ?_
      refine (catch_yes w.heap.size (w.heap.size + 1) zeroN (.bool false) _ [] _ hz hf (by omega)).mono ?_
      rintro e u' w3 ⟨rfl, rfl, rfl⟩
      simp only [settle]
      have hz2 := hz.put (v0 := .string ⟨#[]⟩) (v1 := .float .f64 0) (v2 := .string ⟨#[]⟩) (v3 := .slice none 0 0)
      refine ⟨_, read_res _ _ w.heap.size (w.heap.size + 1) _ _ _ _ _ rfl rfl ((set_other (by omega)).trans hz2.heap) (set_block ((putN_other (by omega)).trans hf) _), ?_⟩
      refine ⟨?_, .inl ⟨by rw [HP.out, if_neg H1.out.1, h2], rfl⟩⟩
      exact (below_put (below_but HG.out.2.2.1 (H1.out.2.1.trans hb2) (by omega) (by have := HG.out.2.2.2; omega)) (Nat.le_refl _)).setCell (by simp) _
    · have HZ2 := Lib.hid (HZ1.out.but hb2 (by omega))
      have HF2 := Lib.hid (hb2.heap HF1.out (by simp))
      have HB2 := Lib.hid (And.intro h2 (below_but HG.out.2.2.1 (H1.out.2.1.trans hb2) (by omega) (by have := HG.out.2.2.2; omega)))
      have HV2 := Lib.hid (hv.sub (B := fun b => w.heap.size ≤ b ∧ b ≠ w.heap.size ∧ b ≠ w.heap.size + 1) (fun b h _ => by have h1 := H1.out.2.1.size; have h2 := HG.out.2.2.2; have h3 : w1.heap.size ≤ b := h; show _ ∧ _ ∧ _; omega))
      obtain ⟨o1, n1, s1, x1, l1, c1, rfl⟩ := hv.agg
      obtain ⟨k, ⟨a, g, hrd⟩, hk⟩ : ∃ (k : Nat), (∃ a g, Rd w2 (w.heap.size + 2) l a k g) ∧ ((k = 0 ∧ ts' = []) ∨ (1 ≤ k ∧ ts' ≠ [])) := by
        obtain ⟨a, k, g, ha, hr, ⟨h1, h2, h3, _⟩ | ⟨t, rest, h1, h2, h3, h4, h5, h6⟩⟩ := hst2
        · exact ⟨k, ⟨a, g, hr⟩, .inl ⟨h2, h1⟩⟩
        · exact ⟨k, ⟨a, g, hr⟩, .inr ⟨h4, by rw [h1]; simp⟩⟩
      obtain ⟨_, _, rc2, _, _, _⟩ := hrd.cells
      obtain ⟨b0, b1, b2, b3, bf⟩ := HZ2.out.cells
      have f0 := bf 0
      have f1 := bf 1
      have f2 := bf 2
      have f3 := bf 3
      clear hb2 h2 hv hst2 bf hrd
      rcases hk with ⟨rfl, hts⟩ | ⟨k1, hts⟩
      · have HTS := Lib.hid hts
        clear hts
        have d0 : w2.cell? ⟨w.heap.size + 1, 0, none⟩ = some (.bool false) := by simp [World.cell?, HF2.out]
        have df : w2.frozen? ⟨w.heap.size + 1, 0, none⟩ = false := by simp [World.frozen?, HF2.out]
        go_wp2
        refine leaves_cons (f := 16) (args := #[.pointer (some ⟨w.heap.size, 0, none⟩), .pointer (some ⟨w.heap.size + 1, 0, none⟩)]) (by simp) rfl ?_
        refine (catch_no w.heap.size (w.heap.size + 1) _).mono ?_
        rintro e u' w3 ⟨rfl, rfl, rfl⟩
        simp only [Leaves, settle]
        have hz2 := (HZ2.out.put (v0 := .string o1) (v1 := .float .f64 n1) (v2 := .string s1) (v3 := .slice x1 l1 c1)).put (v0 := .string o1) (v1 := .float .f64 n1) (v2 := .string s1) (v3 := .slice x1 l1 c1)
        have hf2 : (putN (putN w2 w.heap.size (.string o1) (.float .f64 n1) (.string s1) (.slice x1 l1 c1)) w.heap.size (.string o1) (.float .f64 n1) (.string s1) (.slice x1 l1 c1)).heap[w.heap.size + 1]? = some (.cells #[.bool false] 4 (0, 0)) := (putN_other (by omega)).trans ((putN_other (by omega)).trans HF2.out)
        refine ⟨_, read_res _ _ w.heap.size (w.heap.size + 1) _ _ _ _ _ rfl rfl ((set_other (by omega)).trans hz2.heap) (set_block hf2 _), ?_⟩
        refine ⟨(below_put (below_put HB2.out.2 (Nat.le_refl _)) (Nat.le_refl _)).setCell (by simp) _, .inr ⟨t, _, by rw [HP.out, if_neg H1.out.1, HB2.out.1, HTS.out], rfl, ?_⟩⟩
        exact (NodeV.kept (by rw [putN_size, putN_size]; exact Nat.le_refl _) (fun b h1 _ => ⟨h1, (putN_other h1.2.1).trans (putN_other h1.2.1)⟩) t _ HV2.out).set _ _ (fun h => h.2.2 rfl) |>.sub (fun b h _ => h.1)
      · have HTS := Lib.hid hts
        have y : ((k : Int) != 0) = true := by simp; omega
        clear hts k1
        go_wp2
        refine leaves_cons (f := 16) (args := #[.pointer (some ⟨w.heap.size, 0, none⟩), .pointer (some ⟨w.heap.size + 1, 0, none⟩)]) (by simp) rfl ?_
        have hz := HZ2.out.put (v0 := .string o1) (v1 := .float .f64 n1) (v2 := .string s1) (v3 := .slice x1 l1 c1)
        have hf : (putN w2 w.heap.size (.string o1) (.float .f64 n1) (.string s1) (.slice x1 l1 c1)).heap[w.heap.size + 1]? = some (.cells #[.bool false] 4 (0, 0)) := (putN_other (by omega)).trans HF2.out
        refine (catch_yes w.heap.size (w.heap.size + 1) _ (.bool false) _ [] _ hz hf (by omega)).mono ?_
        rintro e u' w3 ⟨rfl, rfl, rfl⟩
        simp only [settle]
        have hz2 := hz.put (v0 := .string ⟨#[]⟩) (v1 := .float .f64 0) (v2 := .string ⟨#[]⟩) (v3 := .slice none 0 0)
        refine ⟨_, read_res _ _ w.heap.size (w.heap.size + 1) _ _ _ _ _ rfl rfl ((set_other (by omega)).trans hz2.heap) (set_block ((putN_other (by omega)).trans hf) _), ?_⟩
        refine ⟨(below_put (below_put HB2.out.2 (Nat.le_refl _)) (Nat.le_refl _)).setCell (by simp) _, .inl ⟨?_, rfl⟩⟩
        rw [HP.out, if_neg H1.out.1, HB2.out.1]
        cases hq : ts' with
        | nil => exact absurd hq HTS.out
        | cons _ _ => rfl
end Go.Proofs.Ytmhfnpabgkkjaaa
