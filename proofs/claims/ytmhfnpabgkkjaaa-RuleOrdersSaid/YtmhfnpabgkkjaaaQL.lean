/- Sizes of what is parsed; walk: Parse. -/
import Derived.Test.YtmhfnpabgkkjaaaQK
namespace Go.Proofs.Ytmhfnpabgkkjaaa
open Go.RowKit Go.Shelf
attribute [local go_sem] run_store_float
def Mode.sz : Mode → Nat
  | .orT t | .andT t | .sumT t | .prodT t => szT t
  | _ => 0
theorem sz_two (op : Bs) (a b : Tree) : szT (two op a b) = 1 + szT a + szT b := by simp [two, szT, szL]; omega
theorem sz_one (op : Bs) (a : Tree) : szT (one op a) = 1 + szT a := by simp [one, szT, szL]
theorem sz_leaf (op s : Bs) (n : Nat) : szT (.mk op n s []) = 1 := by simp [szT, szL]
def SzC (R : List Tok → Option (Tree × List Tok)) : Prop := ∀ ts a r, R ts = some (a, r) → szT a + r.length ≤ ts.length
theorem inside_sz {ok : Bool} {R : List Tok → Option (Tree × List Tok)} {ts r : List Tok} {a : Tree} (hR : SzC R) (h : inside ok R ts = some (a, r)) : szT a + r.length + 2 ≤ ts.length := by
  unfold inside at h
  split at h
  · cases h
  · rename_i t1 h1
    split at h
    · cases h
    · rename_i a2 t2 h2
      split at h
      · cases h
      · rename_i t3 h3
        cases h
        have := must_len h1
        have := hR _ _ _ h2
        have := must_len h3
        omega
theorem hasP_sz {ok : Bool} {R : List Tok → Option (Tree × List Tok)} {ts r : List Tok} {a : Tree} (hR : SzC R) (h : hasP ok R ts = some (a, r)) : szT a + r.length + 2 ≤ ts.length := by
  unfold hasP at h
  split at h
  · cases h
  · rename_i t1 h1
    split at h
    · cases h
    · rename_i a2 t2 h2
      split at h
      · cases h
      · rename_i t3 h3
        split at h
        · cases h
        · rename_i b t4 h4
          split at h
          · cases h
          · rename_i t5 h5
            cases h
            have := must_len h1
            have := hR _ _ _ h2
            have := must_len h3
            have := hR _ _ _ h4
            have := must_len h5
            rw [sz_two]
            omega
theorem P_sz (V : Bs → Nat) (ok : Bool) : ∀ (n : Nat) (m : Mode) (ts : List Tok) (a : Tree) (r : List Tok), P V ok n m ts = some (a, r) → szT a + r.length ≤ ts.length + m.sz := by
  intro n
  induction n with
  | zero => intro m ts a r h; cases h
  | succ n ih =>
    have chain : ∀ (m1 : Mode) (m2 : Tree → Mode) (ts r : List Tok) (a : Tree), m1.sz = 0 → (∀ t, (m2 t).sz = szT t) → (match P V ok n m1 ts with | none => none | some (a, r) => P V ok n (m2 a) r) = some (a, r) → szT a + r.length ≤ ts.length := by
      intro m1 m2 ts r a hm hm2 h
      split at h
      · cases h
      · rename_i b t1 h1
        have g := ih _ _ _ _ h1
        have g2 := ih _ _ _ _ h
        rw [hm2] at g2
        omega
    have tailr : ∀ (c : Prop) [Decidable c] (m1 : Mode) (m2 : Tree → Mode) (ts r : List Tok) (a x : Tree), m1.sz = 0 → (∀ t, (m2 t).sz = 1 + szT x + szT t) → (if c then (match adv ok ts with | none => none | some t1 => match P V ok n m1 t1 with | none => none | some (b, r) => P V ok n (m2 b) r) else some (x, ts)) = some (a, r) → szT a + r.length ≤ ts.length + szT x := by
      intro c _ m1 m2 ts r a x hm hm2 h
      split at h
      · split at h
        · cases h
        · rename_i t1 h1
          split at h
          · cases h
          · rename_i b t2 h2
            have g0 := adv_len h1
            have g := ih _ _ _ _ h2
            have g2 := ih _ _ _ _ h
            rw [hm2] at g2
            omega
      · cases h; omega
    have hor : SzC (P V ok n .or) := fun ts a r h => ih _ _ _ _ h
    intro m ts a r h
    cases m with
    | or => exact chain .and Mode.orT ts r a rfl (fun _ => rfl) (by have h' := h; simp only [P] at h'; exact h')
    | and => exact chain .not Mode.andT ts r a rfl (fun _ => rfl) (by have h' := h; simp only [P] at h'; exact h')
    | sum => exact chain .prod Mode.sumT ts r a rfl (fun _ => rfl) (by have h' := h; simp only [P] at h'; exact h')
    | prod => exact chain .signed Mode.prodT ts r a rfl (fun _ => rfl) (by have h' := h; simp only [P] at h'; exact h')
    | orT x => exact tailr _ .and (fun b => Mode.orT (two wor x b)) ts r a x rfl (fun t => by simp only [Mode.sz]; exact sz_two _ _ _) (by have h' := h; simp only [P] at h'; exact h')
    | andT x => exact tailr _ .not (fun b => Mode.andT (two wand x b)) ts r a x rfl (fun t => by simp only [Mode.sz]; exact sz_two _ _ _) (by have h' := h; simp only [P] at h'; exact h')
    | sumT x => exact tailr _ .prod (fun b => Mode.sumT (two ((ts.headD ⟨0, []⟩).s) x b)) ts r a x rfl (fun t => by simp only [Mode.sz]; exact sz_two _ _ _) (by have h' := h; simp only [P] at h'; exact h')
    | prodT x => exact tailr _ .signed (fun b => Mode.prodT (two ((ts.headD ⟨0, []⟩).s) x b)) ts r a x rfl (fun t => by simp only [Mode.sz]; exact sz_two _ _ _) (by have h' := h; simp only [P] at h'; exact h')
    | not =>
      simp only [P] at h
      split at h
      · split at h
        · cases h
        · rename_i t1 h1
          split at h
          · cases h
          · rename_i b t2 h2
            cases h
            have g0 := adv_len h1
            have g := ih _ _ _ _ h2
            rw [sz_one]
            simp only [Mode.sz] at g ⊢
            omega
      · split at h
        · cases h
        · rename_i b t2 h2
          have g2 := ih _ _ _ _ h2
          simp only [Mode.sz] at g2 ⊢
          split at h
          · cases h; exact g2
          · split at h
            · split at h
              · cases h
              · rename_i t3 h3
                split at h
                · cases h
                · rename_i c t4 h4
                  cases h
                  have g0 := adv_len h3
                  have g := ih _ _ _ _ h4
                  simp only [Mode.sz] at g
                  rw [sz_two]
                  omega
            · cases h; exact g2
    | signed =>
      simp only [P] at h
      split at h
      · split at h
        · cases h
        · rename_i t1 h1
          split at h
          · cases h
          · rename_i b t2 h2
            cases h
            have g0 := adv_len h1
            have g := ih _ _ _ _ h2
            simp only [Mode.sz] at g ⊢
            rw [sz_one]
            omega
      · have g := ih _ _ _ _ h
        exact g
    | atom =>
      cases ts with
      | nil => simp only [P] at h; cases h
      | cons t ts =>
        rw [P_atom] at h
        simp only [Mode.sz]
        split at h
        · split at h
          · cases h
          · rename_i t1 h1
            cases h
            have g0 := adv_len h1
            rw [sz_leaf]
            omega
        · split at h
          · split at h
            · cases h
            · rename_i t1 h1
              cases h
              have g0 := adv_len h1
              rw [sz_leaf]
              omega
          · split at h
            · unfold namedP at h
              split at h
              · cases h
              · split at h
                · cases h
                · rename_i t1 h1
                  have g0 := adv_len h1
                  split at h
                  · split at h
                    · cases h
                    · rename_i b t2 h2
                      cases h
                      have g := inside_sz hor h2
                      rw [sz_one]
                      omega
                  · split at h
                    · have g := hasP_sz hor h
                      omega
                    · cases h
                      rw [sz_leaf]
                      omega
            · have g := inside_sz hor h
              omega
theorem lexF_len : ∀ (n : Nat) (l : Bs), (lexF n l).1.length ≤ l.length
  | 0, _ => by simp [lexF]
  | n + 1, l => by
    simp only [lexF]
    split
    · simp
    · cases hq : lex1 (l.drop (cntBl l)) with
      | none => simp
      | some x =>
        obtain ⟨t, k⟩ := x
        have h3 := lex1_len hq
        have h4 := lexF_len n ((l.drop (cntBl l)).drop k)
        simp at h3 h4 ⊢
        omega
theorem readP_sz {l : Bs} {t : Tree} (h : readP l = some t) : szT t ≤ l.length := by
  unfold readP at h
  split at h
  · cases h
  · split at h
    · rename_i t2 h2
      cases h
      have g := P_sz _ _ _ _ _ _ _ h2
      have g2 := lexF_len (l.length + 1) l
      simp only [Mode.sz, List.length_nil] at g
      unfold lex at g
      omega
    · cases h
def zeroT : Tree := .mk [] 0 [] []
/-- What parsing a text gives: a tree, and why not. -/
def parseP (l : Bs) : Tree × Nat :=
  if 256 < l.length then (zeroT, 2) else match readP l with
  | none => (zeroT, 190)
  | some t => if 16 < depT t then (zeroT, 190) else (t, 0)
def ParseEnd (l : Bs) (w : World) (e : Ending) (w' : World) : Prop :=
  ∃ v, e = .returned (.tuple #[v, .int .i64 ((parseP l).2 : Nat)]) ∧ NodeV (fun b => w.heap.size ≤ b) w' v (parseP l).1 ∧ Below w.heap.size w w'
set_option maxRecDepth 100000 in
set_option maxHeartbeats 4000000 in
theorem wparse (l : Bs) (hl : l.length ≤ 1000000) (w : World) : Calls Try.prog 8 #[.string (tx l)] w (ParseEnd l w) := by
  have HS := Lib.hid (tx_size' l)
  have HRD := Lib.hid (fun W => wread l hl W)
  have HL := Lib.hid hl
  obtain ⟨pr, hpr⟩ : ∃ x, x = parseP l := ⟨_, rfl⟩
  have HP := Lib.hid hpr
  unfold parseP at HP
  by_cases q : 256 < l.length
  · have q2 : 256 < ((tx l).size : Int) := by have := HS.out; omega
    rw [if_pos q] at HP
    have HE : Hid (∀ e w', (∃ v, e = .returned (.tuple #[v, .int .i64 (2 : Nat)]) ∧ NodeV (fun b => w.heap.size ≤ b) w' v zeroT ∧ Below w.heap.size w w') → ParseEnd l w e w') := Lib.hid (fun e w' h => by
      unfold ParseEnd; rw [← hpr, HP.out]; exact h)
    clear hpr q hl
    go_enter Try.func8, Try.ntmps8
    go_wp2
    refine bodyPost_ret (results_cell_tmp rfl _ _ w.heap.size 38 _ _ _ rfl (heap_alloc_new w _) Try.underlying38 rfl (by kernel_rfl)) rfl (HE.out _ _ ?_)
    exact ⟨_, rfl, NodeV.zero _ _, (Below.refl _ _).alloc (Nat.le_refl _) _⟩
  · have q2 : ¬ 256 < ((tx l).size : Int) := by have := HS.out; omega
    rw [if_neg q] at HP
    have HSZ : Hid (∀ t, readP l = some t → szT t ≤ 1000000 ∧ depT t ≤ 1000000) := Lib.hid (fun t h => by
      have h1 := readP_sz h
      have h2 := dep_sz t
      have h3 := HL.out
      omega)
    clear q hl
    go_enter Try.func8, Try.ntmps8
    go_wp2_with (first | (go_at_call 12; fail))
    go_at_call 12
    refine (HRD.out _).mono ?_
    rintro e w2 ⟨hb2, ⟨h1, rfl⟩ | ⟨t, v, h1, rfl, hv⟩⟩
    · have HE : Hid (∀ e w', (∃ v, e = .returned (.tuple #[v, .int .i64 (190 : Nat)]) ∧ NodeV (fun b => w.heap.size ≤ b) w' v zeroT ∧ Below w.heap.size w w') → ParseEnd l w e w') := Lib.hid (fun e w' h => by
        unfold ParseEnd; rw [← hpr, HP.out, h1]; exact h)
      have HB := Lib.hid hb2
      have HZ : Hid (NB w2 w.heap.size zeroN) := Lib.hid ((show NB (w.alloc (.cells #[.string ⟨#[]⟩, .float .f64 0, .string ⟨#[]⟩, .slice none 0 0] 38)) w.heap.size zeroN from ⟨_, _, _, _, rfl, heap_alloc_new _ _⟩).below hb2)
      obtain ⟨b0, b1, b2, b3, bf⟩ := HZ.out.cells
      have f0 := bf 0
      have f1 := bf 1
      have f2 := bf 2
      have f3 := bf 3
      have hlt := HZ.out.lt
      clear bf hb2 h1 hpr HP
      go_wp2
      have hz2 := HZ.out.put (v0 := .string ⟨#[]⟩) (v1 := .float .f64 0) (v2 := .string ⟨#[]⟩) (v3 := .slice none 0 0)
      refine bodyPost_ret (results_cell_tmp rfl _ _ w.heap.size 38 _ _ _ rfl ((heap_alloc_old _ _ (by simpa using hlt)).trans hz2.heap) Try.underlying38 rfl (by kernel_rfl)) rfl (HE.out _ _ ?_)
      have hbw : Below w.heap.size w w2 := ((Below.refl _ _).alloc (Nat.le_refl _) _).trans (below_le HB.out (by simp))
      exact ⟨_, rfl, NodeV.zero _ _, (below_put hbw (Nat.le_refl _)).alloc (by have := hbw.size; rw [putN_size]; exact this) _⟩
    · have HB := Lib.hid hb2
      have HZ : Hid (NB w2 w.heap.size zeroN) := Lib.hid ((show NB (w.alloc (.cells #[.string ⟨#[]⟩, .float .f64 0, .string ⟨#[]⟩, .slice none 0 0] 38)) w.heap.size zeroN from ⟨_, _, _, _, rfl, heap_alloc_new _ _⟩).below hb2)
      have HV := Lib.hid (hv.sub (B := fun b => w.heap.size ≤ b ∧ b ≠ w.heap.size) (fun b h _ => by have h3 : (w.alloc (.cells #[.string ⟨#[]⟩, .float .f64 0, .string ⟨#[]⟩, .slice none 0 0] 38)).heap.size ≤ b := h; simp at h3; show _ ∧ _; omega))
      obtain ⟨o1, n1, s1, x1, l1, c1, rfl⟩ := hv.agg
      have HSZ2 := Lib.hid (HSZ.out t h1)
      have HDP : Hid (∀ W, NodeV (fun b => w.heap.size ≤ b ∧ b ≠ w.heap.size) W (.agg #[.string o1, .float .f64 n1, .string s1, .slice x1 l1 c1]) t → Calls Try.prog 13 #[.agg #[.string o1, .float .f64 n1, .string s1, .slice x1 l1 c1]] W fun e w' => e = .returned (.int .i64 (depT t)) ∧ Below W.heap.size W w') :=
        Lib.hid (fun W h => wdepth _ t (Nat.le_refl _) _ _ W HSZ2.out.1 h)
      have HP2 : Hid (pr = if 16 < depT t then (zeroT, 190) else (t, 0)) := Lib.hid (by rw [HP.out, h1])
      obtain ⟨D, hD⟩ : ∃ D, D = depT t := ⟨_, rfl⟩
      rw [← hD] at HDP HP2 HSZ2
      have hdl : D ≤ 1000000 := HSZ2.out.2
      have HPR := Lib.hid hpr
      have hlt := HZ.out.lt
      clear hb2 h1 hpr HP hv hD
      go_wp2_with (first | (go_at_call 13; fail))
      refine (HDP.out _ (HV.out.below ((Below.refl _ _).alloc (Nat.le_refl _) _))).mono ?_
      rintro e w5 ⟨rfl, hb5⟩
      have HB5 : Hid (Below w2.heap.size w2 w5) := Lib.hid (((Below.refl _ _).alloc (Nat.le_refl _) (.cells #[.string o1, .float .f64 n1, .string s1, .slice x1 l1 c1] 38)).trans (below_le hb5 (by simp)))
      have HG5 : Hid (NB w5 w2.heap.size (.agg #[.string o1, .float .f64 n1, .string s1, .slice x1 l1 c1])) := Lib.hid ((show NB (w2.alloc (.cells #[.string o1, .float .f64 n1, .string s1, .slice x1 l1 c1] 38)) w2.heap.size _ from ⟨_, _, _, _, rfl, heap_alloc_new _ _⟩).below hb5)
      have HZ5 := Lib.hid (HZ.out.below HB5.out)
      have HV5 := Lib.hid (HV.out.below HB5.out)
      obtain ⟨b0, b1, b2, b3, bf⟩ := HZ5.out.cells
      obtain ⟨a0, a1, a2, a3, _⟩ := HG5.out.cells
      have f0 := bf 0
      have f1 := bf 1
      have f2 := bf 2
      have f3 := bf 3
      clear bf hb5 hlt
      have hbw : Hid (Below w.heap.size w w5) := Lib.hid ((((Below.refl _ _).alloc (Nat.le_refl _) _).trans (below_le HB.out (by simp))).trans (below_le HB5.out (by have := HB.out.size; simp at this; omega)))
      by_cases q16 : 16 < D
      · have HE : Hid (∀ e w', (∃ v, e = .returned (.tuple #[v, .int .i64 (190 : Nat)]) ∧ NodeV (fun b => w.heap.size ≤ b) w' v zeroT ∧ Below w.heap.size w w') → ParseEnd l w e w') := Lib.hid (fun e w' h => by
          unfold ParseEnd; rw [← HPR.out, HP2.out, if_pos q16]; exact h)
        go_wp2
        have hz2 := HZ5.out.put (v0 := .string ⟨#[]⟩) (v1 := .float .f64 0) (v2 := .string ⟨#[]⟩) (v3 := .slice none 0 0)
        refine bodyPost_ret (results_cell_tmp rfl _ _ w.heap.size 38 _ _ _ rfl hz2.heap Try.underlying38 rfl (by kernel_rfl)) rfl (HE.out _ _ ?_)
        exact ⟨_, rfl, NodeV.zero _ _, below_put hbw.out (Nat.le_refl _)⟩
      · have HE : Hid (∀ e w', (∃ v, e = .returned (.tuple #[v, .int .i64 (0 : Nat)]) ∧ NodeV (fun b => w.heap.size ≤ b) w' v t ∧ Below w.heap.size w w') → ParseEnd l w e w') := Lib.hid (fun e w' h => by
          unfold ParseEnd; rw [← HPR.out, HP2.out, if_neg q16]; exact h)
        go_wp2
        have hz2 := HZ5.out.put (v0 := .string o1) (v1 := .float .f64 n1) (v2 := .string s1) (v3 := .slice x1 l1 c1)
        refine bodyPost_ret (results_cell_tmp rfl _ _ w.heap.size 38 _ _ _ rfl hz2.heap Try.underlying38 rfl (by kernel_rfl)) rfl (HE.out _ _ ?_)
        exact ⟨_, rfl, NodeV.kept (by rw [putN_size]; exact Nat.le_refl _) (fun b h1 _ => ⟨h1.1, putN_other h1.2⟩) t _ HV5.out, below_put hbw.out (Nat.le_refl _)⟩
end Go.Proofs.Ytmhfnpabgkkjaaa
