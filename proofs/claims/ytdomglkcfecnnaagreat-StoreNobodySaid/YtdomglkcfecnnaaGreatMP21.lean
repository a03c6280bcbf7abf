/- Own texts, merged: Q6, Q7. -/
import Derived.Test.YtdomglkcfecnnaaGreatMP20
/- Trees in memory, the reader's state, next and must. -/
namespace Go.Proofs.YtdomglkcfecnnaaGreat
open Go.RowKit Go.Shelf
theorem lex1_len {l : Bs} {t : Tok} {n : Nat} (h : lex1 l = some (t, n)) : 1 ≤ n ∧ n ≤ l.length ∧ 1 ≤ t.k := by
  cases l with
  | nil => cases h
  | cons c r =>
    simp only [lex1] at h
    split at h
    · rename_i hd
      split at h
      · cases h
        have h1 := (numLen_le (c :: r)).1
        have h2 : 1 ≤ cntDig (c :: r) := by unfold cntDig; rw [List.takeWhile_cons_of_pos (p := isDig) hd]; simp
        refine ⟨?_, h1, Nat.le_refl _⟩
        unfold numLen
        simp only
        split <;> simp only <;> omega
      · cases h
    · split at h
      · cases h
        have := takeWhile_le isWrd r
        unfold cntWrd
        simp
        omega
      · split at h
        · split at h
          · cases h; simp; omega
          · cases h
        · split at h
          · rename_i h2
            cases h
            cases r with
            | nil => exact absurd h2 (by simp [isTwo])
            | cons d r => simp
          · split at h
            · cases h; simp
            · cases h
theorem lexF_fuel : ∀ (n m : Nat) (l : Bs), l.length < n → l.length < m → lexF n l = lexF m l
  | 0, _, _, h, _ => by omega
  | _, 0, _, _, h => by omega
  | n + 1, m + 1, l, h1, h2 => by
    simp only [lexF]
    split
    · rfl
    · rename_i hne
      cases hq : lex1 (l.drop (cntBl l)) with
      | none => rfl
      | some x =>
        obtain ⟨t, k⟩ := x
        have h3 := lex1_len hq
        simp only
        rw [lexF_fuel n m _ (by simp at h3 ⊢; omega) (by simp at h3 ⊢; omega)]
/-- The pieces from a place on. -/
theorem lex_at (s : Bs) (a : Nat) (ha : a ≤ s.length) : lex (s.drop a) = if s.length ≤ blAt s a then ([], true) else match lex1 (s.drop (blAt s a)) with
    | none => ([], false)
    | some (t, k) => (t :: (lex (s.drop (blAt s a + k))).1, (lex (s.drop (blAt s a + k))).2) := by
  have hb := cntBl_le s a ha
  unfold lex
  rw [show lexF ((s.drop a).length + 1) (s.drop a) = (if (s.drop a).drop (cntBl (s.drop a)) = [] then ([], true) else match lex1 ((s.drop a).drop (cntBl (s.drop a))) with
    | none => ([], false)
    | some (t, k) => (t :: (lexF (s.drop a).length (((s.drop a).drop (cntBl (s.drop a))).drop k)).1, (lexF (s.drop a).length (((s.drop a).drop (cntBl (s.drop a))).drop k)).2)) from rfl]
  rw [List.drop_drop, show a + cntBl (s.drop a) = blAt s a from rfl]
  by_cases h : s.length ≤ blAt s a
  · rw [if_pos h, if_pos (List.drop_eq_nil_of_le h)]
  · rw [if_neg h, if_neg (fun e => by have := congrArg List.length e; simp at this; omega)]
    cases hq : lex1 (s.drop (blAt s a)) with
    | none => rfl
    | some x =>
      obtain ⟨t, k⟩ := x
      have h3 := lex1_len hq
      simp only [List.drop_drop]
      rw [lexF_fuel (s.drop a).length ((s.drop (blAt s a + k)).length + 1) _ (by simp at h3 ⊢; omega) (by omega)]
theorem dig_46 {c : UInt8} (h : isDig c = true) : c ≠ 46 := by rintro rfl; exact absurd h (by decide)
theorem valF_digs (d : Bs) (hd : ∀ c ∈ d, isDig c = true) (x : Nat × Nat × Bool) : (d.foldl valStep x).2.1 = (if x.2.2 = true then x.2.1 + d.length else x.2.1) ∧ (d.foldl valStep x).2.2 = x.2.2 := by
  induction d generalizing x with
  | nil => simp
  | cons c t ih =>
    have hc := dig_46 (hd c (by simp))
    obtain ⟨h1, h2⟩ := ih (fun c h => hd c (by simp [h])) (valStep x c)
    rw [List.foldl_cons, h1, h2]
    unfold valStep
    rw [if_neg hc]
    refine ⟨?_, rfl⟩
    simp only [List.length_cons]
    split
    · omega
    · rfl
theorem filter_digs (d : Bs) (hd : ∀ c ∈ d, isDig c = true) : (d.filter (fun c => c != 46)).length = d.length := by
  rw [List.filter_eq_self.2 (fun c h => by simpa [bne_iff_ne] using dig_46 (hd c h))]
theorem numT_lex {l : Bs} (h : (numLen l).2.1 ≤ 15 ∧ (numLen l).2.2 ≤ 6) : NumT (l.take (numLen l).1) := by
  have hall : ∀ l : Bs, ∀ c ∈ l.takeWhile isDig, isDig c = true := fun l c hc => by
    induction l with
    | nil => cases hc
    | cons a t ih =>
      rw [List.takeWhile_cons] at hc
      split at hc
      · rename_i ha
        rcases List.mem_cons.1 hc with rfl | hc
        · exact ha
        · exact ih hc
      · cases hc
  have htk : ∀ l : Bs, l.take (cntDig l) = l.takeWhile isDig := fun l => by
    unfold cntDig
    induction l with
    | nil => rfl
    | cons a t ih =>
      rw [List.takeWhile_cons]
      split
      · rw [List.length_cons, List.take_succ_cons, ih]
      · rfl
  unfold numLen at h ⊢
  simp only at h ⊢
  split
  · rename_i hc
    rw [if_pos hc] at h
    have hlt := getD_zero (l := l) (i := cntDig l) (by rw [hc.1]; decide)
    have e : l.take (cntDig l + 1 + cntDig (l.drop (cntDig l + 1))) = l.takeWhile isDig ++ 46 :: (l.drop (cntDig l + 1)).takeWhile isDig := by
      rw [List.take_add, List.take_add_one, htk, htk, List.getElem?_eq_getElem hlt]
      have : l[cntDig l] = 46 := by
        have := hc.1
        rw [List.getD_eq_getElem?_getD, List.getElem?_eq_getElem hlt] at this
        exact this
      rw [this]
      simp
    simp only
    rw [e]
    have d1 := hall l
    have d2 := hall (l.drop (cntDig l + 1))
    refine ⟨fun c h0 => ?_, ?_, ?_, by rw [List.length_append, List.length_cons]; have h9 : cntDig l + cntDig (l.drop (cntDig l + 1)) ≤ 15 := h.1; have e1 : (l.takeWhile isDig).length = cntDig l := rfl; have e2 : ((l.drop (cntDig l + 1)).takeWhile isDig).length = cntDig (l.drop (cntDig l + 1)) := rfl; omega⟩
    · rcases List.mem_append.1 h0 with h0 | h0
      · exact .inr (d1 c h0)
      · rcases List.mem_cons.1 h0 with rfl | h0
        · exact .inl rfl
        · exact .inr (d2 c h0)
    · unfold valF
      rw [List.foldl_append, List.foldl_cons]
      obtain ⟨h1, h2⟩ := valF_digs _ d1 (0, 0, false)
      obtain ⟨h3, h4⟩ := valF_digs _ d2 (valStep ((l.takeWhile isDig).foldl valStep (0, 0, false)) 46)
      rw [h3]
      unfold valStep at *
      simp only [if_pos] at *
      rw [h1]
      simp
      exact h.2
    · rw [List.filter_append, List.length_append, filter_digs _ d1, List.filter_cons_of_neg (by simp), filter_digs _ d2]
      exact h.1
  · rename_i hc
    rw [if_neg hc] at h
    simp only
    rw [htk]
    have d1 := hall l
    refine ⟨fun c h0 => .inr (d1 c h0), ?_, ?_, by have h9 : cntDig l ≤ 15 := h.1; have e1 : (l.takeWhile isDig).length = cntDig l := rfl; omega⟩
    · unfold valF
      rw [(valF_digs _ d1 (0, 0, false)).1]
      simp
    · rw [filter_digs _ d1]; exact h.1
theorem lex1_num_tok {l : Bs} {t : Tok} {n : Nat} (h : lex1 l = some (t, n)) (hk : t.k = 1) : NumT t.s := by
  cases l with
  | nil => cases h
  | cons c r =>
    simp only [lex1] at h
    split at h
    · split at h
      · rename_i hn
        cases h
        exact numT_lex hn
      · cases h
    · split at h
      · cases h; cases hk
      · split at h
        · split at h
          · cases h; cases hk
          · cases h
        · split at h
          · cases h; cases hk
          · split at h
            · cases h; cases hk
            · cases h
/-- The reader: the pieces that are left, the first one taken. -/
def St (r : Nat) (s : Bs) (ok : Bool) (ts : List Tok) (w : World) : Prop :=
  ∃ a k g, a ≤ s.length ∧ Rd w r s a k g ∧ ((ts = [] ∧ k = 0 ∧ g = [] ∧ ok = true) ∨ ∃ t rest, ts = t :: rest ∧ t.k = k ∧ t.s = g ∧ 1 ≤ k ∧ lex (s.drop a) = (rest, ok) ∧ (t.k = 1 → NumT t.s))
theorem wqstep (r : Nat) (s : Bs) (ok : Bool) (ts : List Tok) (a k : Nat) (g : Bs) (hs : s.length ≤ 1000000) (ha : a ≤ s.length) (w : World) (h : Rd w r s a k g) (hl : lex (s.drop a) = (ts, ok)) :
    Calls Tryz.prog 82 #[.pointer (some ⟨r, 0, none⟩)] w fun e w' => But [r] w w' ∧ ((ts = [] ∧ ok = false ∧ Pan e) ∨ (¬ (ts = [] ∧ ok = false) ∧ e = .returned (.tuple #[]) ∧ St r s ok ts w')) := by
  refine (wqnext r s a k g hs ha w h).mono ?_
  rintro e w' ⟨hb, h1⟩
  rw [lex_at s a ha] at hl
  have hbl := cntBl_le s a ha
  refine ⟨hb, ?_⟩
  rcases h1 with ⟨h2, rfl, hr⟩ | ⟨h2, h3⟩
  · rw [if_pos h2] at hl
    cases hl
    exact .inr ⟨by simp, rfl, _, _, _, hbl.2, hr, .inl ⟨rfl, rfl, rfl, rfl⟩⟩
  · rw [if_neg (by omega)] at hl
    rcases h3 with ⟨h4, hp⟩ | ⟨t, n, h4, rfl, hr⟩
    · rw [h4] at hl
      cases hl
      exact .inl ⟨rfl, rfl, hp⟩
    · rw [h4] at hl
      have h5 := lex1_len h4
      cases hl
      exact .inr ⟨by simp, rfl, _, _, _, by simp at h5; omega, hr, .inr ⟨t, _, rfl, rfl, rfl, h5.2.2, rfl, lex1_num_tok h4⟩⟩
/-- What taking a piece ends in. -/
def AdvEnd (r : Nat) (s : Bs) (ok : Bool) (res : Option (List Tok)) (w : World) (e : Ending) (w' : World) : Prop :=
  But [r] w w' ∧ ((res = none ∧ Pan e) ∨ (∃ ts', res = some ts' ∧ e = .returned (.tuple #[]) ∧ St r s ok ts' w'))
theorem wadv (r : Nat) (s : Bs) (ok : Bool) (ts : List Tok) (hs : s.length ≤ 1000000) (hne : ts ≠ []) (w : World) (h : St r s ok ts w) :
    Calls Tryz.prog 82 #[.pointer (some ⟨r, 0, none⟩)] w (AdvEnd r s ok (adv ok ts) w) := by
  obtain ⟨a, k, g, ha, hr, ⟨h1, _⟩ | ⟨t, rest, rfl, h1, h2, h3, h4, _⟩⟩ := h
  · exact absurd h1 hne
  · refine (wqstep r s ok rest a k g hs ha w hr h4).mono ?_
    rintro e w' ⟨hb, ⟨h5, h6, hp⟩ | ⟨h5, rfl, hst⟩⟩
    · exact ⟨hb, .inl ⟨by simp [adv, h5, h6], hp⟩⟩
    · exact ⟨hb, .inr ⟨rest, by simp only [adv]; rw [if_neg h5], rfl, hst⟩⟩
theorem wisT (r : Nat) (s : Bs) (ok : Bool) (ts : List Tok) (kk : Nat) (hk : 1 ≤ kk) (str : Bs) (w : World) (h : St r s ok ts w) :
    Calls Tryz.prog 105 #[.pointer (some ⟨r, 0, none⟩), .int .i64 kk, .string (tx str)] w fun e w' => e = .returned (.bool (isTok ts kk str)) ∧ w = w' := by
  obtain ⟨a, k, g, ha, hr, ⟨rfl, rfl, rfl, _⟩ | ⟨t, rest, rfl, h1, h2, h3, h4⟩⟩ := h
  · refine (wrdIs r s a 0 [] kk str w hr).mono ?_
    rintro e w' ⟨rfl, rfl⟩
    refine ⟨ret_bool ?_, rfl⟩
    have e0 : ((0 : Nat) == kk) = false := by simp; omega
    rw [e0]
    rfl
  · refine (wrdIs r s a k g kk str w hr).mono ?_
    rintro e w' ⟨rfl, rfl⟩
    refine ⟨ret_bool ?_, rfl⟩
    rw [← h1, ← h2]
    rfl
theorem St.kept {r : Nat} {s : Bs} {ok : Bool} {ts : List Tok} {w w' : World} (h : St r s ok ts w) (hb : w'.heap[r]? = w.heap[r]?) : St r s ok ts w' := by
  obtain ⟨a, k, g, ha, hr, h1⟩ := h
  exact ⟨a, k, g, ha, hb.trans hr, h1⟩
theorem St.lt {r : Nat} {s : Bs} {ok : Bool} {ts : List Tok} {w : World} (h : St r s ok ts w) : r < w.heap.size := by
  obtain ⟨a, k, g, ha, hr, h1⟩ := h
  exact hr.cells.2.2.2.2.2
theorem St.below {r : Nat} {s : Bs} {ok : Bool} {ts : List Tok} {w w' : World} (h : St r s ok ts w) (hb : Below w.heap.size w w') : St r s ok ts w' := h.kept (hb.block r h.lt)
set_option maxHeartbeats 1000000 in
theorem wmust (r : Nat) (s : Bs) (ok : Bool) (ts : List Tok) (str : Bs) (hs : s.length ≤ 1000000) (w : World) (h : St r s ok ts w) :
    Calls Tryz.prog 168 #[.pointer (some ⟨r, 0, none⟩), .string (tx str)] w (AdvEnd r s ok (must ok str ts) w) := by
  have HIS := Lib.hid (wisT r s ok ts 4 (by omega) str w h)
  have HH := Lib.hid h
  have HSL := Lib.hid hs
  clear h hs
  obtain ⟨res, hres⟩ : ∃ x, x = must ok str ts := ⟨_, rfl⟩
  rw [← hres]
  unfold must at hres
  cases hq : isTok ts 4 str
  · rw [hq] at HIS hres
    have HV : Hid (res = none) := Lib.hid hres
    clear hq hres
    go_enter Tryz.func168, Tryz.ntmps168
    go_wp2_with (first | (go_at_call 105; refine (HIS.out).mono ?_; rintro e w1 ⟨rfl, rfl⟩))
    go_wp2
    exact ⟨rfl, But.refl _ _, .inl ⟨HV.out, rfl⟩⟩
  · have HNE : Hid (ts ≠ []) := Lib.hid (fun e => by rw [e] at hq; cases hq)
    rw [hq] at HIS hres
    have HV : Hid (res = adv ok ts) := Lib.hid hres
    clear hq hres
    go_enter Tryz.func168, Tryz.ntmps168
    go_wp2_with (first | (go_at_call 105; refine (HIS.out).mono ?_; rintro e w1 ⟨rfl, rfl⟩))
    go_at_call 82
    refine (wadv r s ok ts HSL.out HNE.out _ HH.out).mono ?_
    rintro e w2 ⟨hb, ⟨h1, rfl⟩ | ⟨ts', h1, rfl, hst⟩⟩
    · have H1 := Lib.hid (And.intro h1 hb)
      clear h1 hb
      go_wp2
      exact ⟨rfl, H1.out.2, .inl ⟨HV.out.trans H1.out.1, rfl⟩⟩
    · have H1 := Lib.hid (And.intro h1 (And.intro hb hst))
      clear h1 hb hst
      go_wp2
      first | go_end0 | refine bodyPost_ret (results_none rfl _ _ _) rfl ?_
      exact ⟨H1.out.2.1, .inr ⟨ts', HV.out.trans H1.out.1, rfl, H1.out.2.2⟩⟩
mutual
/-- A tree in memory, in blocks for which A holds. -/
def NodeV (A : Nat → Prop) (w : World) : Value → Tree → Prop
  | v, .mk op n s l => ∃ x cap, v = .agg #[.string (tx op), .float .f64 n, .string (tx s), .slice x l.length cap] ∧ l.length ≤ cap ∧ (x = none → l = []) ∧ ∀ a, x = some a → (l ≠ [] → A a.block ∧ a.block < w.heap.size) ∧ NodesV A w a 0 l
def NodesV (A : Nat → Prop) (w : World) : Addr → Nat → List Tree → Prop
  | _, _, [] => True
  | a, i, t :: r => (∃ v0 v1 v2 v3, w.cell? (a.add (i * 4)) = some v0 ∧ w.cell? (a.add (i * 4 + 1)) = some v1 ∧ w.cell? (a.add (i * 4 + 2)) = some v2 ∧ w.cell? (a.add (i * 4 + 3)) = some v3 ∧ NodeV A w (.agg #[v0, v1, v2, v3]) t) ∧ NodesV A w a (i + 1) r
end
theorem nil_not {α : Type} {l : List α} {j : Nat} (h : j < l.length) : l ≠ [] := by intro e; rw [e] at h; cases h
theorem add_block (a : Addr) (j : Nat) : (a.add j).block = a.block := by unfold Addr.add; split <;> rfl
theorem cell_lt {w : World} {a : Addr} {v : Value} (h : w.cell? a = some v) : a.block < w.heap.size := by
  unfold World.cell? at h
  rcases Nat.lt_or_ge a.block w.heap.size with h' | h'
  · exact h'
  · rw [Array.getElem?_eq_none h'] at h
    cases h
theorem cell_same {w w' : World} {a : Addr} {v : Value} (h : w'.heap[a.block]? = w.heap[a.block]?) (hc : w.cell? a = some v) : w'.cell? a = some v := by
  rw [← hc]
  unfold World.cell?
  rw [h]
mutual
theorem NodeV.kept {A B : Nat → Prop} {w w' : World} (hz : w.heap.size ≤ w'.heap.size) (hk : ∀ b, A b → b < w.heap.size → B b ∧ w'.heap[b]? = w.heap[b]?) : ∀ (t : Tree) (v : Value), NodeV A w v t → NodeV B w' v t
  | .mk op n s l, v, h => by
    obtain ⟨x, cap, hv, h1, h2, h3⟩ := h
    refine ⟨x, cap, hv, h1, h2, fun a ha => ?_⟩
    obtain ⟨g1, g3⟩ := h3 a ha
    exact ⟨fun hl => ⟨(hk _ (g1 hl).1 (g1 hl).2).1, Nat.lt_of_lt_of_le (g1 hl).2 hz⟩, NodesV.kept hz hk l a 0 g1 g3⟩
theorem NodesV.kept {A B : Nat → Prop} {w w' : World} (hz : w.heap.size ≤ w'.heap.size) (hk : ∀ b, A b → b < w.heap.size → B b ∧ w'.heap[b]? = w.heap[b]?) : ∀ (l : List Tree) (a : Addr) (i : Nat), (l ≠ [] → A a.block ∧ a.block < w.heap.size) → NodesV A w a i l → NodesV B w' a i l
  | [], _, _, _, _ => trivial
  | t :: r, a, i, hal, h => by
    obtain ⟨ha, hlt⟩ := hal (by intro e; cases e)
    obtain ⟨⟨v0, v1, v2, v3, h0, h1, h2, h3, h4⟩, h5⟩ := h
    have hs : ∀ j, w'.heap[(a.add j).block]? = w.heap[(a.add j).block]? := fun j => by rw [add_block]; exact (hk _ ha hlt).2
    exact ⟨⟨v0, v1, v2, v3, cell_same (hs _) h0, cell_same (hs _) h1, cell_same (hs _) h2, cell_same (hs _) h3, NodeV.kept hz hk t _ h4⟩, NodesV.kept hz hk r a (i + 1) (fun _ => ⟨ha, hlt⟩) h5⟩
end
theorem NodeV.sub {A B : Nat → Prop} {w : World} {v : Value} {t : Tree} (h : NodeV A w v t) (hs : ∀ b, A b → b < w.heap.size → B b) : NodeV B w v t :=
  NodeV.kept (Nat.le_refl _) (fun b h1 h2 => ⟨hs b h1 h2, rfl⟩) t v h
theorem NodeV.but {A : Nat → Prop} {r : Nat} {w w' : World} {v : Value} {t : Tree} (h : NodeV A w v t) (hr : ¬ A r) (hb : But [r] w w') : NodeV A w' v t :=
  NodeV.kept hb.size (fun b h1 h2 => ⟨h1, hb.block b h2 (by simp; exact fun e => hr (e ▸ h1))⟩) t v h
theorem NodeV.below {A : Nat → Prop} {w w' : World} {v : Value} {t : Tree} (h : NodeV A w v t) (hb : Below w.heap.size w w') : NodeV A w' v t :=
  NodeV.kept hb.size (fun b h1 h2 => ⟨h1, hb.block b h2⟩) t v h
theorem NodeV.set {A : Nat → Prop} {w : World} {v : Value} {t : Tree} (h : NodeV A w v t) (x : Addr) (u : Value) (hx : ¬ A x.block) : NodeV A (w.setCell x u) v t :=
  NodeV.kept (by simp) (fun b h1 h2 => ⟨h1, Below.heap_setCell _ _ _ _ (fun e => hx (e ▸ h1))⟩) t v h
theorem NodeV.drewN {A : Nat → Prop} {w : World} {v : Value} {t : Tree} (h : NodeV A w v t) (n : Nat) : NodeV A (w.drewN n) v t :=
  NodeV.kept (w := w) (w' := w.drewN n) (Nat.le_refl w.heap.size) (fun _ h1 _ => ⟨h1, rfl⟩) t v h
theorem NodeV.drew {A : Nat → Prop} {w : World} {v : Value} {t : Tree} (h : NodeV A w v t) : NodeV A w.drew v t :=
  NodeV.kept (w := w) (w' := w.drew) (Nat.le_refl w.heap.size) (fun _ h1 _ => ⟨h1, rfl⟩) t v h
theorem NodeV.zero (A : Nat → Prop) (w : World) : NodeV A w (.agg #[.string ⟨#[]⟩, .float .f64 0, .string ⟨#[]⟩, .slice none 0 0]) (.mk [] 0 [] []) :=
  ⟨none, 0, rfl, Nat.le_refl _, fun _ => rfl, fun a ha => by cases ha⟩
end Go.Proofs.YtdomglkcfecnnaaGreat
/- Walks: pair, single. -/
namespace Go.Proofs.YtdomglkcfecnnaaGreat
open Go.RowKit Go.Shelf
theorem run_store_float (P : Program) (w : World) (a : Addr) (m : _root_.Go.Mode) (k : FloatKind) (b : Nat) : (store a (.float k b) m).run P w = stored P w a (.float k b) m := run_store P w a _ m rfl
attribute [local go_sem] run_store_float
theorem addr_add (g j : Nat) : (⟨g, 0, none⟩ : Addr).add j = ⟨g, j, none⟩ := by by_cases e : j = 0 <;> simp [Addr.add, e]
theorem node_two {A : Nat → Prop} {w : World} {g : Nat} {a0 a1 a2 a3 b0 b1 b2 b3 : Value} {T : TypeId} {ta tb : Tree} {op : Bs} (hg : A g) (h : w.heap[g]? = some (.cells #[a0, a1, a2, a3, b0, b1, b2, b3] T (0, 0)))
    (ha : NodeV A w (.agg #[a0, a1, a2, a3]) ta) (hb : NodeV A w (.agg #[b0, b1, b2, b3]) tb) : NodeV A w (.agg #[.string (tx op), .float .f64 0, .string ⟨#[]⟩, .slice (some ⟨g, 0, none⟩) 2 2]) (two op ta tb) := by
  refine ⟨_, 2, rfl, Nat.le_refl _, (fun e => by cases e), fun a e => ?_⟩
  cases e
  exact ⟨fun _ => ⟨hg, (Array.getElem?_eq_some_iff.1 h).1⟩, ⟨⟨a0, a1, a2, a3, by simp [addr_add, World.cell?, h], by simp [addr_add, World.cell?, h], by simp [addr_add, World.cell?, h], by simp [addr_add, World.cell?, h], ha⟩, ⟨⟨b0, b1, b2, b3, by simp [addr_add, World.cell?, h], by simp [addr_add, World.cell?, h], by simp [addr_add, World.cell?, h], by simp [addr_add, World.cell?, h], hb⟩, trivial⟩⟩⟩
theorem node_one {A : Nat → Prop} {w : World} {g : Nat} {a0 a1 a2 a3 : Value} {T : TypeId} {ta : Tree} {op : Bs} (hg : A g) (h : w.heap[g]? = some (.cells #[a0, a1, a2, a3] T (0, 0)))
    (ha : NodeV A w (.agg #[a0, a1, a2, a3]) ta) : NodeV A w (.agg #[.string (tx op), .float .f64 0, .string ⟨#[]⟩, .slice (some ⟨g, 0, none⟩) 1 1]) (one op ta) := by
  refine ⟨_, 1, rfl, Nat.le_refl _, (fun e => by cases e), fun a e => ?_⟩
  cases e
  exact ⟨fun _ => ⟨hg, (Array.getElem?_eq_some_iff.1 h).1⟩, ⟨⟨a0, a1, a2, a3, by simp [addr_add, World.cell?, h], by simp [addr_add, World.cell?, h], by simp [addr_add, World.cell?, h], by simp [addr_add, World.cell?, h], ha⟩, trivial⟩⟩
theorem node_res {fn : Func} {p : Tmp} (h : fn.results = #[.cell p 119]) (tmps : Array Value) (w : World) (g : Nat) (v0 v1 v2 v3 : Value) (hp : tmps.getD p undef = .pointer (some ⟨g, 0, none⟩))
    (hg : w.heap[g]? = some (.cells #[v0, v1, v2, v3] 119 (0, 0))) : (results fn tmps).run Tryz.prog w = .ok (.agg #[v0, v1, v2, v3]) w :=
  results_cell h tmps w g 119 _ _ _ hp hg Tryz.underlying119 rfl (by kernel_rfl)
set_option maxHeartbeats 2000000 in
theorem wpair (A : Nat → Prop) (op : Bs) (va vb : Value) (ta tb : Tree) (w : World) (hlo : ∀ b, w.heap.size ≤ b → A b) (ha : NodeV A w va ta) (hb : NodeV A w vb tb) :
    Calls Tryz.prog 106 #[.string (tx op), va, vb] w fun e w' => ∃ v, e = .returned v ∧ NodeV A w' v (two op ta tb) ∧ Below w.heap.size w w' := by
  have HA := Lib.hid ha
  have HB := Lib.hid hb
  have HL := Lib.hid hlo
  obtain ⟨oa, na, sa, la⟩ := ta
  obtain ⟨ob, nb, sb, lb⟩ := tb
  obtain ⟨xa, ca, rfl, _⟩ := ha
  obtain ⟨xb, cb, rfl, _⟩ := hb
  generalize la.length = p at HA ⊢
  generalize lb.length = q at HB ⊢
  clear hlo
  go_enter Tryz.func106, Tryz.ntmps106
  go_wp2
  have hbel : ∀ o1 o2 o3 o4, Below w.heap.size w ((((w.alloc o1).alloc o2).alloc o3).alloc o4) := fun o1 o2 o3 o4 => ((((Below.refl _ _).alloc (Nat.le_refl _) _).alloc (by simp) _).alloc (by simp; omega) _).alloc (by simp; omega) _
  refine bodyPost_ret (node_res rfl _ _ (w.heap.size + 1 + 1) _ _ _ _ rfl ((heap_alloc_old _ _ (by simp)).trans (by simpa using heap_alloc_new ((w.alloc _).alloc _) _))) rfl ?_
  exact ⟨_, rfl, node_two (g := w.heap.size + 1 + 1 + 1) (HL.out _ (by omega)) (by simpa using heap_alloc_new (((w.alloc _).alloc _).alloc _) _) (HA.out.below (hbel _ _ _ _)) (HB.out.below (hbel _ _ _ _)), hbel _ _ _ _⟩
set_option maxHeartbeats 2000000 in
theorem wsingle (A : Nat → Prop) (op : Bs) (va : Value) (ta : Tree) (w : World) (hlo : ∀ b, w.heap.size ≤ b → A b) (ha : NodeV A w va ta) :
    Calls Tryz.prog 146 #[.string (tx op), va] w fun e w' => ∃ v, e = .returned v ∧ NodeV A w' v (one op ta) ∧ Below w.heap.size w w' := by
  have HA := Lib.hid ha
  have HL := Lib.hid hlo
  obtain ⟨oa, na, sa, la⟩ := ta
  obtain ⟨xa, ca, rfl, _⟩ := ha
  generalize la.length = p at HA ⊢
  clear hlo
  go_enter Tryz.func146, Tryz.ntmps146
  go_wp2
  have hbel : ∀ o1 o2 o3, Below w.heap.size w (((w.alloc o1).alloc o2).alloc o3) := fun o1 o2 o3 => (((Below.refl _ _).alloc (Nat.le_refl _) _).alloc (by simp) _).alloc (by simp; omega) _
  refine bodyPost_ret (node_res rfl _ _ (w.heap.size + 1) _ _ _ _ rfl ((heap_alloc_old _ _ (by simp)).trans (by simpa using heap_alloc_new (w.alloc _) _))) rfl ?_
  exact ⟨_, rfl, node_one (g := w.heap.size + 1 + 1) (HL.out _ (by omega)) (by simpa using heap_alloc_new ((w.alloc _).alloc _) _) (HA.out.below (hbel _ _ _)), hbel _ _ _⟩
end Go.Proofs.YtdomglkcfecnnaaGreat
