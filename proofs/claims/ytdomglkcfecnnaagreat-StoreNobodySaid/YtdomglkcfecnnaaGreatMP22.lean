/- Own texts, merged: Q8, Q9. -/
import Derived.WalkMore
import Derived.Test.YtdomglkcfecnnaaGreatMP21
/- Walks: or. -/
namespace Go.Proofs.YtdomglkcfecnnaaGreat
open Go.RowKit Go.Shelf
attribute [local go_sem] run_store_float
/-- What reading a part ends in. -/
def PEnd (r : Nat) (s : Bs) (ok : Bool) (res : Option (Tree × List Tok)) (w : World) (e : Ending) (w' : World) : Prop :=
  But [r] w w' ∧ ((res = none ∧ Pan e) ∨ ∃ t ts' v, res = some (t, ts') ∧ e = .returned v ∧ NodeV (fun b => w.heap.size ≤ b) w' v t ∧ St r s ok ts' w')
/-- A reader of parts, with this much fuel. -/
def PC (V : Bs → Nat) (s : Bs) (ok : Bool) (F : Nat) (m : Mode) (lvl : Nat) (n : Nat) : Prop :=
  ∀ r ts w, 12 * ts.length + lvl ≤ n → St r s ok ts w → Calls Tryz.prog F #[.pointer (some ⟨r, 0, none⟩)] w (PEnd r s ok (P V ok n m ts) w)
theorem PEnd.no {r : Nat} {s : Bs} {ok : Bool} {w w' : World} {e : Ending} (h : PEnd r s ok none w e w') : Pan e ∧ But [r] w w' := by
  obtain ⟨h1, ⟨_, h2⟩ | ⟨_, _, _, h2, _⟩⟩ := h
  · exact ⟨h2, h1⟩
  · cases h2
theorem PEnd.yes {r : Nat} {s : Bs} {ok : Bool} {t : Tree} {ts : List Tok} {w w' : World} {e : Ending} (h : PEnd r s ok (some (t, ts)) w e w') : ∃ v, e = .returned v ∧ NodeV (fun b => w.heap.size ≤ b) w' v t ∧ St r s ok ts w' ∧ But [r] w w' := by
  obtain ⟨h1, ⟨h2, _⟩ | ⟨_, _, v, h2, h3, h4, h5⟩⟩ := h
  · cases h2
  · cases h2; exact ⟨v, h3, h4, h5, h1⟩
theorem NodeV.agg {A : Nat → Prop} {w : World} {v : Value} {t : Tree} (h : NodeV A w v t) : ∃ o n s x l c, v = .agg #[.string o, .float .f64 n, .string s, .slice x l c] := by
  obtain ⟨op, n, s, l⟩ := t
  obtain ⟨x, cap, rfl, _⟩ := h
  exact ⟨_, _, _, _, _, _, rfl⟩
theorem St.drew {r : Nat} {s : Bs} {ok : Bool} {ts : List Tok} {w : World} (h : St r s ok ts w) : St r s ok ts w.drew := h.kept rfl
/-- A block of a node. -/
def NB (w : World) (g : Nat) (v : Value) : Prop := ∃ v0 v1 v2 v3, v = .agg #[v0, v1, v2, v3] ∧ w.heap[g]? = some (.cells #[v0, v1, v2, v3] 119 (0, 0))
theorem NB.kept {w w' : World} {g : Nat} {v : Value} (h : NB w g v) (hk : w'.heap[g]? = w.heap[g]?) : NB w' g v := by
  obtain ⟨v0, v1, v2, v3, hv, hg⟩ := h
  exact ⟨v0, v1, v2, v3, hv, hk.trans hg⟩
theorem NB.lt {w : World} {g : Nat} {v : Value} (h : NB w g v) : g < w.heap.size := by
  obtain ⟨v0, v1, v2, v3, hv, hg⟩ := h
  exact (Array.getElem?_eq_some_iff.1 hg).1
theorem NB.but {w w' : World} {g r : Nat} {v : Value} (h : NB w g v) (hb : But [r] w w') (hr : g ≠ r) : NB w' g v := h.kept (hb.block g h.lt (by simpa using hr))
theorem NB.below {w w' : World} {g : Nat} {v : Value} (h : NB w g v) (hb : Below w.heap.size w w') : NB w' g v := h.kept (hb.block g h.lt)
theorem NB.cells {w : World} {g : Nat} {v0 v1 v2 v3 : Value} (h : NB w g (.agg #[v0, v1, v2, v3])) : w.cell? ⟨g, 0, none⟩ = some v0 ∧ w.cell? ⟨g, 1, none⟩ = some v1 ∧ w.cell? ⟨g, 2, none⟩ = some v2 ∧ w.cell? ⟨g, 3, none⟩ = some v3 ∧ (∀ j, w.frozen? ⟨g, j, none⟩ = false) := by
  obtain ⟨u0, u1, u2, u3, hv, hg⟩ := h
  cases hv
  exact ⟨by simp [World.cell?, hg], by simp [World.cell?, hg], by simp [World.cell?, hg], by simp [World.cell?, hg], fun j => by simp [World.frozen?, hg]⟩
/-- A node stored. -/
def putN (w : World) (g : Nat) (v0 v1 v2 v3 : Value) : World := (((w.setCell ⟨g, 0, none⟩ v0).setCell ⟨g, 1, none⟩ v1).setCell ⟨g, 2, none⟩ v2).setCell ⟨g, 3, none⟩ v3
theorem NB.put {w : World} {g : Nat} {v v0 v1 v2 v3 : Value} (h : NB w g v) : NB (putN w g v0 v1 v2 v3) g (.agg #[v0, v1, v2, v3]) := by
  obtain ⟨u0, u1, u2, u3, hv, hg⟩ := h
  refine ⟨v0, v1, v2, v3, rfl, ?_⟩
  unfold putN
  rw [set_block (set_block (set_block (set_block hg _) _) _) _]
  rfl
theorem putN_other {w : World} {g j : Nat} {v0 v1 v2 v3 : Value} (h : j ≠ g) : (putN w g v0 v1 v2 v3).heap[j]? = w.heap[j]? := by
  unfold putN
  rw [set_other h, set_other h, set_other h, set_other h]
theorem putN_size {w : World} {g : Nat} {v0 v1 v2 v3 : Value} : (putN w g v0 v1 v2 v3).heap.size = w.heap.size := by simp [putN]
/-- What a loop of parts keeps: the result's variable g0, the part read so far in g. -/
structure LI (w : World) (r : Nat) (s : Bs) (ok : Bool) (g0 g : Nat) (ts : List Tok) (a : Tree) (W : World) : Prop where
  st : St r s ok ts W
  node : ∃ v, NodeV (fun b => w.heap.size ≤ b ∧ b ≠ g0 ∧ b ≠ g) W v a ∧ NB W g v
  res : ∃ v, NB W g0 v
  bt : But [r] w W
  lt : r < w.heap.size ∧ w.heap.size ≤ g0 ∧ g0 < g
theorem LI.start {w w1 w2 : World} {r : Nat} {s : Bs} {ok : Bool} {ts : List Tok} {a : Tree} {z v0 v1 v2 v3 : Value} (hr : r < w.heap.size) (hz : NB w1 w.heap.size z) (h1 : Below w.heap.size w w1) (hs1 : w1.heap.size = w.heap.size + 1) (hb : But [r] w1 w2)
    (hn : NodeV (fun b => w1.heap.size ≤ b) w2 (.agg #[v0, v1, v2, v3]) a) (hst : St r s ok ts w2) : LI w r s ok w.heap.size w2.heap.size ts a (w2.alloc (.cells #[v0, v1, v2, v3] 119)) := by
  have hsz := hb.size
  have hal : Below w2.heap.size w2 (w2.alloc (.cells #[v0, v1, v2, v3] 119)) := (Below.refl _ _).alloc (Nat.le_refl _) _
  refine ⟨hst.below hal, ⟨_, (hn.sub (fun b h1 h2 => (by omega : w.heap.size ≤ b ∧ b ≠ w.heap.size ∧ b ≠ w2.heap.size))).below hal, ⟨v0, v1, v2, v3, rfl, heap_alloc_new _ _⟩⟩, ⟨z, (hz.but hb (by omega)).below hal⟩, ((But.of h1).trans hb).below hal, hr, Nat.le_refl _, by omega⟩
theorem NB.heap {w : World} {g : Nat} {v0 v1 v2 v3 : Value} (h : NB w g (.agg #[v0, v1, v2, v3])) : w.heap[g]? = some (.cells #[v0, v1, v2, v3] 119 (0, 0)) := by
  obtain ⟨u0, u1, u2, u3, hv, hg⟩ := h
  cases hv
  exact hg
/-- The part is the result. -/
theorem LI.done {w W : World} {r : Nat} {s : Bs} {ok : Bool} {g0 g : Nat} {ts : List Tok} {a : Tree} {v0 v1 v2 v3 : Value} (h : LI w r s ok g0 g ts a W) (hv : NodeV (fun b => w.heap.size ≤ b ∧ b ≠ g0 ∧ b ≠ g) W (.agg #[v0, v1, v2, v3]) a) :
    PEnd r s ok (some (a, ts)) w (.returned (.agg #[v0, v1, v2, v3])) (putN W g0 v0 v1 v2 v3) := by
  have hl := h.lt
  refine ⟨⟨h.bt.os, h.bt.tape, h.bt.output, by rw [putN_size]; exact h.bt.size, fun j h1 h2 => ?_⟩, .inr ⟨a, ts, _, rfl, rfl, ?_, ?_⟩⟩
  · rw [putN_other (by omega)]; exact h.bt.block j h1 h2
  · exact NodeV.kept (by rw [putN_size]; exact Nat.le_refl _) (fun b h1 _ => ⟨h1.1, putN_other h1.2.1⟩) a _ hv
  · exact h.st.kept (putN_other (by omega))
/-- The next part: what a round leaves. -/
theorem LI.next {w W W5 W6 W7 : World} {r : Nat} {s : Bs} {ok : Bool} {g0 g : Nat} {ts ts' : List Tok} {a b : Tree} {v0 v1 v2 v3 : Value} (h : LI w r s ok g0 g ts a W) (h5 : But [r] W W5) (hst : St r s ok ts' W5) (h6 : Below W5.heap.size W5 W6)
    (hv : NodeV (fun b => w.heap.size ≤ b ∧ b ≠ g0 ∧ b ≠ g) W6 (.agg #[v0, v1, v2, v3]) b) (h7 : W7 = putN W6 g v0 v1 v2 v3) : LI w r s ok g0 g ts' b W7 := by
  subst h7
  have hl := h.lt
  obtain ⟨z, hz⟩ := h.res
  obtain ⟨y, _, hy⟩ := h.node
  have hy6 := (hy.but h5 (by omega)).below h6
  refine ⟨(hst.below h6).kept (putN_other (by omega)), ⟨_, NodeV.kept (by rw [putN_size]; exact Nat.le_refl _) (fun b h1 _ => ⟨h1, putN_other h1.2.2⟩) b _ hv, hy6.put⟩, ⟨z, ((hz.but h5 (by omega)).below h6).kept (putN_other (by omega))⟩, ?_, hl⟩
  have hb := (h.bt.trans h5).below h6
  exact ⟨hb.os, hb.tape, hb.output, by rw [putN_size]; exact hb.size, fun j h1 h2 => by rw [putN_other (by omega)]; exact hb.block j h1 h2⟩
set_option maxRecDepth 100000 in
set_option maxHeartbeats 4000000 in
theorem wor_step (V : Bs → Nat) (s : Bs) (ok : Bool) (hs : s.length ≤ 1000000) (n : Nat) (H : ∀ k, k ≤ n → PC V s ok 104 .and 9 k) : PC V s ok 83 .or 11 (n + 1) := by
  intro r ts w hn hst
  have HST := Lib.hid hst
  have HN := Lib.hid hn
  have HSL := Lib.hid hs
  have HH := Lib.hid H
  obtain ⟨res, hres⟩ : ∃ x, x = P V ok (n + 1) .or ts := ⟨_, rfl⟩
  rw [← hres]
  have HR := Lib.hid hres
  clear hst hn hs H hres
  go_enter Tryz.func83, Tryz.ntmps83
  go_wp2_with (first | (go_at_call 104; fail))
  go_at_call 104
  refine (HH.out n (Nat.le_refl _) r ts _ (by have := HN.out; omega) (HST.out.below ((Below.refl _ _).alloc (Nat.le_refl _) _))).mono ?_
  rintro e w2 ⟨hb2, ⟨h1, rfl⟩ | ⟨a, ts1, v, h1, rfl, hv, hst1⟩⟩
  · have HB := Lib.hid hb2
    have HV := Lib.hid h1
    clear hb2 h1
    go_wp2
    refine ⟨rfl, (But.of ((Below.refl _ _).alloc (Nat.le_refl _) _)).trans HB.out, .inl ⟨?_, rfl⟩⟩
    rw [HR.out]
    simp only [P]
    rw [HV.out]
  · have HB := Lib.hid hb2
    have HV := Lib.hid h1
    have HND := Lib.hid hv
    have HS1 := Lib.hid hst1
    obtain ⟨o0, n0, s0, x0, l0, c0, rfl⟩ := hv.agg
    have HI : Hid (LI w r s ok w.heap.size w2.heap.size ts1 a (w2.alloc (.cells #[.string o0, .float .f64 n0, .string s0, .slice x0 l0 c0] 119))) :=
      Lib.hid (LI.start HST.out.lt ⟨_, _, _, _, rfl, heap_alloc_new _ _⟩ ((Below.refl _ _).alloc (Nat.le_refl _) _) (by simp) HB.out HND.out HS1.out)
    have HP : Hid (res = P V ok n (.orT a) ts1) := Lib.hid (by rw [HR.out]; simp only [P]; rw [HV.out])
    have HLS := Lib.hid ((P_len V ok n .and ts a ts1 HV.out).1)
    clear hb2 h1 hv hst1
    have HG : Hid (w.heap.size < w2.heap.size) := Lib.hid HI.out.lt.2.2
    go_wp2_with fail
    clear HB HV HND HS1 HR
    generalize w2.alloc (.cells #[.string o0, .float .f64 n0, .string s0, .slice x0 l0 c0] 119) = W0 at HI ⊢
    generalize w2.heap.size = g at HI HG ⊢
    go_loopg [] ts1.length (fun gh wr => ∃ f ts' a', ts'.length = gh ∧ Hid (res = P V ok f (.orT a') ts') ∧ Hid (12 * ts'.length + 10 ≤ f ∧ f ≤ n) ∧ Hid (LI w r s ok w.heap.size g ts' a' wr))
    case atStart => exact ⟨n, ts1, a, rfl, HP, Lib.hid (by have := HN.out; have := HLS.out; omega), HI⟩
    case round =>
      obtain ⟨f, ts', a', hl, HP1, HF, HI1⟩ := hrel
      obtain ⟨f, rfl⟩ : ∃ f', f = f' + 1 := ⟨f - 1, by have := HF.out; omega⟩
      have HIS := Lib.hid (wisT r s ok ts' 2 (by omega) wor wr HI1.out.st)
      cases hq : isTok ts' 2 wor
      · rw [hq] at HIS
        have HV : Hid (res = some (a', ts')) := Lib.hid (by rw [HP1.out]; simp only [P]; rw [hq]; rfl)
        clear hq
        obtain ⟨v, hv, hg⟩ := HI1.out.node
        obtain ⟨o1, n1, s1, x1, l1, c1, rfl⟩ := hv.agg
        obtain ⟨z, hz⟩ := HI1.out.res
        obtain ⟨z0, z1, z2, z3, rfl, hz'⟩ := hz
        have HZ : Hid (NB wr w.heap.size (.agg #[z0, z1, z2, z3])) := Lib.hid ⟨z0, z1, z2, z3, rfl, hz'⟩
        have HVN := Lib.hid hv
        obtain ⟨a0, a1, a2, a3, _⟩ := hg.cells
        obtain ⟨b0, b1, b2, b3, bf⟩ := HZ.out.cells
        have f0 := bf 0
        have f1 := bf 1
        have f2 := bf 2
        have f3 := bf 3
        clear hv hg hz' bf
        go_wp2_with (first | (go_at_call 105; refine (HIS.out).mono ?_; rintro e w5 ⟨rfl, rfl⟩))
        go_wp2
        rw [HV.out]
        exact bodyPost_ret (node_res rfl _ _ w.heap.size _ _ _ _ rfl HZ.out.put.heap) rfl (LI.done HI1.out HVN.out)
      · have HNE : Hid (ts' ≠ []) := Lib.hid (fun e => by rw [e] at hq; cases hq)
        rw [hq] at HIS
        have HAD := Lib.hid (wadv r s ok ts' HSL.out HNE.out wr HI1.out.st)
        have HP2 : Hid (res = match adv ok ts' with
          | none => none
          | some t1 => match P V ok f .and t1 with
            | none => none
            | some (b, r) => P V ok f (.orT (two wor a' b)) r) := Lib.hid (by rw [HP1.out]; simp only [P]; rw [if_pos hq]; rfl)
        clear hq
        go_wp2_with (first | (go_at_call 105; refine (HIS.out).mono ?_; rintro e w5 ⟨rfl, rfl⟩))
        go_at_call 82
        refine (HAD.out).mono ?_
        rintro e w3 ⟨hb3, ⟨h1, rfl⟩ | ⟨t1, h1, rfl, hst3⟩⟩
        · have HB := Lib.hid (And.intro hb3 h1)
          clear hb3 h1
          go_wp2
          refine ⟨rfl, HI1.out.bt.trans HB.out.1, .inl ⟨?_, rfl⟩⟩
          rw [HP2.out, HB.out.2]
        · have HB := Lib.hid (And.intro hb3 h1)
          have HS3 := Lib.hid hst3
          have HLT := Lib.hid (adv_len h1).1
          clear hb3 h1 hst3
          obtain ⟨v, hv, hg⟩ := HI1.out.node
          obtain ⟨o1, n1, s1, x1, l1, c1, rfl⟩ := hv.agg
          have HVN := Lib.hid (hv.but (by have := HI1.out.lt; intro h; omega) HB.out.1)
          have HGN := Lib.hid (hg.but HB.out.1 (by have := HI1.out.lt; omega))
          obtain ⟨a0, a1, a2, a3, bf⟩ := HGN.out.cells
          have f0 := bf 0
          have f1 := bf 1
          have f2 := bf 2
          have f3 := bf 3
          have HAND := Lib.hid (fun W h => HH.out f (by have := HF.out; omega) r t1 W (by have := HF.out; have := HLT.out; omega) h)
          clear hv hg bf
          go_wp2_with fail
          refine wp_region_any (by kernel_rfl) ?_
          change wpAny _ _ _ _ _ _ _ (World.drew _)
          refine wpAny_take (i := 1) (v := _) rfl (by kernel_rfl) (by kernel_rfl) (by kernel_rfl) (fun _ _ _ h => h) (Or.inl ⟨by rfl, by intro w; go_simp; try (with_reducible rfl)⟩) ?_
          refine wpAny_ready (rs := [0, 2]) (by kernel_rfl) (by simp) ?_
          refine AllReady.cons rfl (fun K hK => ?_) (AllReady.cons rfl (fun K hK => ?_) AllReady.nil)
          · go_simp
            refine hK _ _ ?_
            clear hK K
            refine wpAny_ready (rs := [2]) (by kernel_rfl) (by simp) ?_
            refine AllReady.cons rfl (fun K hK => ?_) AllReady.nil
            go_simp
            go_wp2_with (first | (go_at_call 104; fail))
            refine (HAND.out _ HS3.out.drew).mono ?_
            rintro e w5 ⟨hb5, ⟨h1, rfl⟩ | ⟨b, ts2, vb, h1, rfl, hvb, hst5⟩⟩
            · exact ⟨rfl, (HI1.out.bt.trans HB.out.1).drew.trans hb5, .inl ⟨by rw [HP2.out, HB.out.2]; simp only; rw [h1], rfl⟩⟩
            have HB5 : Hid (But [r] w3 w5) := Lib.hid ((But.refl _ _).drew.trans hb5)
            have H5 := Lib.hid (And.intro h1 (And.intro hvb hst5))
            have HL5 := Lib.hid ((P_len V ok f .and t1 b ts2 h1).1)
            obtain ⟨o2, n2, s2, x2, l2, c2, rfl⟩ := hvb.agg
            clear a0 a1 a2 a3 f0 f1 f2 f3 hb5 h1 hvb hst5
            have HG5 := Lib.hid (HGN.out.but HB5.out (by have := HI1.out.lt; omega))
            obtain ⟨a0, a1, a2, a3, bf⟩ := HG5.out.cells
            clear bf
            refine hK _ _ ?_
            clear hK K
            refine wpAny_ready (rs := [3]) (by kernel_rfl) (by simp) ?_
            refine AllReady.cons rfl (fun K hK => ?_) AllReady.nil
            go_simp
            go_wp2_with (first | (go_at_call 106; fail))
            refine (wpair (fun b => w.heap.size ≤ b ∧ b ≠ w.heap.size ∧ b ≠ g) wor _ _ a' b _ ?_ ?_ ?_).mono ?_
            · intro b hb; have h1 := HG5.out.lt; have h2 := HI1.out.lt; show _ ∧ _ ∧ _; omega
            · exact HVN.out.but (by have := HI1.out.lt; intro h; omega) HB5.out
            · exact H5.out.2.1.sub (fun b hb _ => by have h1 := HGN.out.lt; have h2 := HI1.out.lt; have h3 : w3.heap.size ≤ b := hb; show _ ∧ _ ∧ _; omega)
            rintro e w6 ⟨v6, rfl, hv6, hb6⟩
            obtain ⟨o6, n6, s6, x6, l6, c6, rfl⟩ := hv6.agg
            have HG6 := Lib.hid (HG5.out.below hb6)
            have H6 := Lib.hid (And.intro hv6 hb6)
            clear a0 a1 a2 a3 hv6 hb6
            obtain ⟨a0, a1, a2, a3, bf⟩ := HG6.out.cells
            have f0 := bf 0
            have f1 := bf 1
            have f2 := bf 2
            have f3 := bf 3
            clear bf
            refine hK _ _ ?_
            clear hK K
            refine wpAny_ready (rs := [4]) (by kernel_rfl) (by simp) ?_
            refine AllReady.cons rfl (fun K hK => ?_) AllReady.nil
            go_simp
            refine hK _ _ ?_
            clear hK K
            refine wpAny_done (by kernel_rfl) ?_ _
            go_wp2
            have HN2 := HLT.out
            have HN3 := HL5.out
            go_roundg ts2.length
            case measure => omega
            case rel => exact ⟨f, ts2, two wor a' b, rfl, Lib.hid (by rw [HP2.out, HB.out.2]; simp only; rw [H5.out.1]), Lib.hid (by have := HF.out; omega), Lib.hid (LI.next HI1.out (HB.out.1.trans HB5.out) H5.out.2.2 H6.out.2 H6.out.1 rfl)⟩
          · go_simp
            go_wp2_with (first | (go_at_call 104; fail))
            refine (HAND.out _ HS3.out.drew).mono ?_
            rintro e w5 ⟨hb5, ⟨h1, rfl⟩ | ⟨b, ts2, vb, h1, rfl, hvb, hst5⟩⟩
            · exact ⟨rfl, (HI1.out.bt.trans HB.out.1).drew.trans hb5, .inl ⟨by rw [HP2.out, HB.out.2]; simp only; rw [h1], rfl⟩⟩
            have HB5 : Hid (But [r] w3 w5) := Lib.hid ((But.refl _ _).drew.trans hb5)
            have H5 := Lib.hid (And.intro h1 (And.intro hvb hst5))
            have HL5 := Lib.hid ((P_len V ok f .and t1 b ts2 h1).1)
            obtain ⟨o2, n2, s2, x2, l2, c2, rfl⟩ := hvb.agg
            clear a0 a1 a2 a3 f0 f1 f2 f3 hb5 h1 hvb hst5
            have HG5 := Lib.hid (HGN.out.but HB5.out (by have := HI1.out.lt; omega))
            obtain ⟨a0, a1, a2, a3, bf⟩ := HG5.out.cells
            clear bf
            refine hK _ _ ?_
            clear hK K
            refine wpAny_ready (rs := [0]) (by kernel_rfl) (by simp) ?_
            refine AllReady.cons rfl (fun K hK => ?_) AllReady.nil
            go_simp
            refine hK _ _ ?_
            clear hK K
            refine wpAny_ready (rs := [3]) (by kernel_rfl) (by simp) ?_
            refine AllReady.cons rfl (fun K hK => ?_) AllReady.nil
            go_simp
            go_wp2_with (first | (go_at_call 106; fail))
            refine (wpair (fun b => w.heap.size ≤ b ∧ b ≠ w.heap.size ∧ b ≠ g) wor _ _ a' b _ ?_ ?_ ?_).mono ?_
            · intro b hb; have h1 := HG5.out.lt; have h2 := HI1.out.lt; show _ ∧ _ ∧ _; omega
            · exact HVN.out.but (by have := HI1.out.lt; intro h; omega) HB5.out
            · exact H5.out.2.1.sub (fun b hb _ => by have h1 := HGN.out.lt; have h2 := HI1.out.lt; have h3 : w3.heap.size ≤ b := hb; show _ ∧ _ ∧ _; omega)
            rintro e w6 ⟨v6, rfl, hv6, hb6⟩
            obtain ⟨o6, n6, s6, x6, l6, c6, rfl⟩ := hv6.agg
            have HG6 := Lib.hid (HG5.out.below hb6)
            have H6 := Lib.hid (And.intro hv6 hb6)
            clear a0 a1 a2 a3 hv6 hb6
            obtain ⟨a0, a1, a2, a3, bf⟩ := HG6.out.cells
            have f0 := bf 0
            have f1 := bf 1
            have f2 := bf 2
            have f3 := bf 3
            clear bf
            refine hK _ _ ?_
            clear hK K
            refine wpAny_ready (rs := [4]) (by kernel_rfl) (by simp) ?_
            refine AllReady.cons rfl (fun K hK => ?_) AllReady.nil
            go_simp
            refine hK _ _ ?_
            clear hK K
            refine wpAny_done (by kernel_rfl) ?_ _
            go_wp2
            have HN2 := HLT.out
            have HN3 := HL5.out
            go_roundg ts2.length
            case measure => omega
            case rel => exact ⟨f, ts2, two wor a' b, rfl, Lib.hid (by rw [HP2.out, HB.out.2]; simp only; rw [H5.out.1]), Lib.hid (by have := HF.out; omega), Lib.hid (LI.next HI1.out (HB.out.1.trans HB5.out) H5.out.2.2 H6.out.2 H6.out.1 rfl)⟩
end Go.Proofs.YtdomglkcfecnnaaGreat
/- Walks: and. -/
namespace Go.Proofs.YtdomglkcfecnnaaGreat
open Go.RowKit Go.Shelf
attribute [local go_sem] run_store_float
set_option maxRecDepth 100000 in
set_option maxHeartbeats 4000000 in
theorem wand_step (V : Bs → Nat) (s : Bs) (ok : Bool) (hs : s.length ≤ 1000000) (n : Nat) (H : ∀ k, k ≤ n → PC V s ok 131 .not 7 k) : PC V s ok 104 .and 9 (n + 1) := by
  intro r ts w hn hst
  have HST := Lib.hid hst
  have HN := Lib.hid hn
  have HSL := Lib.hid hs
  have HH := Lib.hid H
  obtain ⟨res, hres⟩ : ∃ x, x = P V ok (n + 1) .and ts := ⟨_, rfl⟩
  rw [← hres]
  have HR := Lib.hid hres
  clear hst hn hs H hres
  go_enter Tryz.func104, Tryz.ntmps104
  go_wp2_with (first | (go_at_call 131; fail))
  go_at_call 131
  refine (HH.out n (Nat.le_refl _) r ts _ (by have := HN.out; omega) (HST.out.below ((Below.refl _ _).alloc (Nat.le_refl _) _))).mono ?_
  rintro e w2 ⟨hb2, ⟨h1, rfl⟩ | ⟨a, ts1, v, h1, rfl, hv, hst1⟩⟩
  · have HB := Lib.hid hb2
    have HV := Lib.hid h1
    clear hb2 h1
    go_wp2
    refine ⟨rfl, (But.of ((Below.refl _ _).alloc (Nat.le_refl _) _)).trans HB.out, .inl ⟨?_, rfl⟩⟩
    rw [HR.out]
    simp only [P]
    rw [HV.out]
  · have HB := Lib.hid hb2
    have HV := Lib.hid h1
    have HND := Lib.hid hv
    have HS1 := Lib.hid hst1
    obtain ⟨o0, n0, s0, x0, l0, c0, rfl⟩ := hv.agg
    have HI : Hid (LI w r s ok w.heap.size w2.heap.size ts1 a (w2.alloc (.cells #[.string o0, .float .f64 n0, .string s0, .slice x0 l0 c0] 119))) :=
      Lib.hid (LI.start HST.out.lt ⟨_, _, _, _, rfl, heap_alloc_new _ _⟩ ((Below.refl _ _).alloc (Nat.le_refl _) _) (by simp) HB.out HND.out HS1.out)
    have HP : Hid (res = P V ok n (.andT a) ts1) := Lib.hid (by rw [HR.out]; simp only [P]; rw [HV.out])
    have HLS := Lib.hid ((P_len V ok n .not ts a ts1 HV.out).1)
    clear hb2 h1 hv hst1
    have HG : Hid (w.heap.size < w2.heap.size) := Lib.hid HI.out.lt.2.2
    go_wp2_with fail
    clear HB HV HND HS1 HR
    generalize w2.alloc (.cells #[.string o0, .float .f64 n0, .string s0, .slice x0 l0 c0] 119) = W0 at HI ⊢
    generalize w2.heap.size = g at HI HG ⊢
    go_loopg [] ts1.length (fun gh wr => ∃ f ts' a', ts'.length = gh ∧ Hid (res = P V ok f (.andT a') ts') ∧ Hid (12 * ts'.length + 8 ≤ f ∧ f ≤ n) ∧ Hid (LI w r s ok w.heap.size g ts' a' wr))
    case atStart => exact ⟨n, ts1, a, rfl, HP, Lib.hid (by have := HN.out; have := HLS.out; omega), HI⟩
    case round =>
      obtain ⟨f, ts', a', hl, HP1, HF, HI1⟩ := hrel
      obtain ⟨f, rfl⟩ : ∃ f', f = f' + 1 := ⟨f - 1, by have := HF.out; omega⟩
      have HIS := Lib.hid (wisT r s ok ts' 2 (by omega) wand wr HI1.out.st)
      cases hq : isTok ts' 2 wand
      · rw [hq] at HIS
        have HV : Hid (res = some (a', ts')) := Lib.hid (by rw [HP1.out]; simp only [P]; rw [hq]; rfl)
        clear hq
        obtain ⟨v, hv, hg⟩ := HI1.out.node
        obtain ⟨o1, n1, s1, x1, l1, c1, rfl⟩ := hv.agg
        obtain ⟨z, hz⟩ := HI1.out.res
        obtain ⟨z0, z1, z2, z3, rfl, hz'⟩ := hz
        have HZ : Hid (NB wr w.heap.size (.agg #[z0, z1, z2, z3])) := Lib.hid ⟨z0, z1, z2, z3, rfl, hz'⟩
        have HVN := Lib.hid hv
        obtain ⟨a0, a1, a2, a3, _⟩ := hg.cells
        obtain ⟨b0, b1, b2, b3, bf⟩ := HZ.out.cells
        have f0 := bf 0
        have f1 := bf 1
        have f2 := bf 2
        have f3 := bf 3
        clear hv hg hz' bf
        go_wp2_with (first | (go_at_call 105; refine (HIS.out).mono ?_; rintro e w5 ⟨rfl, rfl⟩))
        go_wp2
        rw [HV.out]
        exact bodyPost_ret (node_res rfl _ _ w.heap.size _ _ _ _ rfl HZ.out.put.heap) rfl (LI.done HI1.out HVN.out)
      · have HNE : Hid (ts' ≠ []) := Lib.hid (fun e => by rw [e] at hq; cases hq)
        rw [hq] at HIS
        have HAD := Lib.hid (wadv r s ok ts' HSL.out HNE.out wr HI1.out.st)
        have HP2 : Hid (res = match adv ok ts' with
          | none => none
          | some t1 => match P V ok f .not t1 with
            | none => none
            | some (b, r) => P V ok f (.andT (two wand a' b)) r) := Lib.hid (by rw [HP1.out]; simp only [P]; rw [if_pos hq]; rfl)
        clear hq
        go_wp2_with (first | (go_at_call 105; refine (HIS.out).mono ?_; rintro e w5 ⟨rfl, rfl⟩))
        go_at_call 82
        refine (HAD.out).mono ?_
        rintro e w3 ⟨hb3, ⟨h1, rfl⟩ | ⟨t1, h1, rfl, hst3⟩⟩
        · have HB := Lib.hid (And.intro hb3 h1)
          clear hb3 h1
          go_wp2
          refine ⟨rfl, HI1.out.bt.trans HB.out.1, .inl ⟨?_, rfl⟩⟩
          rw [HP2.out, HB.out.2]
        · have HB := Lib.hid (And.intro hb3 h1)
          have HS3 := Lib.hid hst3
          have HLT := Lib.hid (adv_len h1).1
          clear hb3 h1 hst3
          obtain ⟨v, hv, hg⟩ := HI1.out.node
          obtain ⟨o1, n1, s1, x1, l1, c1, rfl⟩ := hv.agg
          have HVN := Lib.hid (hv.but (by have := HI1.out.lt; intro h; omega) HB.out.1)
          have HGN := Lib.hid (hg.but HB.out.1 (by have := HI1.out.lt; omega))
          obtain ⟨a0, a1, a2, a3, bf⟩ := HGN.out.cells
          have f0 := bf 0
          have f1 := bf 1
          have f2 := bf 2
          have f3 := bf 3
          have HAND := Lib.hid (fun W h => HH.out f (by have := HF.out; omega) r t1 W (by have := HF.out; have := HLT.out; omega) h)
          clear hv hg bf
          go_wp2_with fail
          refine wp_region_any (by kernel_rfl) ?_
          change wpAny _ _ _ _ _ _ _ (World.drew _)
          refine wpAny_take (i := 1) (v := _) rfl (by kernel_rfl) (by kernel_rfl) (by kernel_rfl) (fun _ _ _ h => h) (Or.inl ⟨by rfl, by intro w; go_simp; try (with_reducible rfl)⟩) ?_
          refine wpAny_ready (rs := [0, 2]) (by kernel_rfl) (by simp) ?_
          refine AllReady.cons rfl (fun K hK => ?_) (AllReady.cons rfl (fun K hK => ?_) AllReady.nil)
          · go_simp
            refine hK _ _ ?_
            clear hK K
            refine wpAny_ready (rs := [2]) (by kernel_rfl) (by simp) ?_
            refine AllReady.cons rfl (fun K hK => ?_) AllReady.nil
            go_simp
            go_wp2_with (first | (go_at_call 131; fail))
            refine (HAND.out _ HS3.out.drew).mono ?_
            rintro e w5 ⟨hb5, ⟨h1, rfl⟩ | ⟨b, ts2, vb, h1, rfl, hvb, hst5⟩⟩
            · exact ⟨rfl, (HI1.out.bt.trans HB.out.1).drew.trans hb5, .inl ⟨by rw [HP2.out, HB.out.2]; simp only; rw [h1], rfl⟩⟩
            have HB5 : Hid (But [r] w3 w5) := Lib.hid ((But.refl _ _).drew.trans hb5)
            have H5 := Lib.hid (And.intro h1 (And.intro hvb hst5))
            have HL5 := Lib.hid ((P_len V ok f .not t1 b ts2 h1).1)
            obtain ⟨o2, n2, s2, x2, l2, c2, rfl⟩ := hvb.agg
            clear a0 a1 a2 a3 f0 f1 f2 f3 hb5 h1 hvb hst5
            have HG5 := Lib.hid (HGN.out.but HB5.out (by have := HI1.out.lt; omega))
            obtain ⟨a0, a1, a2, a3, bf⟩ := HG5.out.cells
            clear bf
            refine hK _ _ ?_
            clear hK K
            refine wpAny_ready (rs := [3]) (by kernel_rfl) (by simp) ?_
            refine AllReady.cons rfl (fun K hK => ?_) AllReady.nil
            go_simp
            go_wp2_with (first | (go_at_call 106; fail))
            refine (wpair (fun b => w.heap.size ≤ b ∧ b ≠ w.heap.size ∧ b ≠ g) wand _ _ a' b _ ?_ ?_ ?_).mono ?_
            · intro b hb; have h1 := HG5.out.lt; have h2 := HI1.out.lt; show _ ∧ _ ∧ _; omega
            · exact HVN.out.but (by have := HI1.out.lt; intro h; omega) HB5.out
            · exact H5.out.2.1.sub (fun b hb _ => by have h1 := HGN.out.lt; have h2 := HI1.out.lt; have h3 : w3.heap.size ≤ b := hb; show _ ∧ _ ∧ _; omega)
            rintro e w6 ⟨v6, rfl, hv6, hb6⟩
            obtain ⟨o6, n6, s6, x6, l6, c6, rfl⟩ := hv6.agg
            have HG6 := Lib.hid (HG5.out.below hb6)
            have H6 := Lib.hid (And.intro hv6 hb6)
            clear a0 a1 a2 a3 hv6 hb6
            obtain ⟨a0, a1, a2, a3, bf⟩ := HG6.out.cells
            have f0 := bf 0
            have f1 := bf 1
            have f2 := bf 2
            have f3 := bf 3
            clear bf
            refine hK _ _ ?_
            clear hK K
            refine wpAny_ready (rs := [4]) (by kernel_rfl) (by simp) ?_
            refine AllReady.cons rfl (fun K hK => ?_) AllReady.nil
            go_simp
            refine hK _ _ ?_
            clear hK K
            refine wpAny_done (by kernel_rfl) ?_ _
            go_wp2
            have HN2 := HLT.out
            have HN3 := HL5.out
            go_roundg ts2.length
            case measure => omega
            case rel => exact ⟨f, ts2, two wand a' b, rfl, Lib.hid (by rw [HP2.out, HB.out.2]; simp only; rw [H5.out.1]), Lib.hid (by have := HF.out; omega), Lib.hid (LI.next HI1.out (HB.out.1.trans HB5.out) H5.out.2.2 H6.out.2 H6.out.1 rfl)⟩
          · go_simp
            go_wp2_with (first | (go_at_call 131; fail))
            refine (HAND.out _ HS3.out.drew).mono ?_
            rintro e w5 ⟨hb5, ⟨h1, rfl⟩ | ⟨b, ts2, vb, h1, rfl, hvb, hst5⟩⟩
            · exact ⟨rfl, (HI1.out.bt.trans HB.out.1).drew.trans hb5, .inl ⟨by rw [HP2.out, HB.out.2]; simp only; rw [h1], rfl⟩⟩
            have HB5 : Hid (But [r] w3 w5) := Lib.hid ((But.refl _ _).drew.trans hb5)
            have H5 := Lib.hid (And.intro h1 (And.intro hvb hst5))
            have HL5 := Lib.hid ((P_len V ok f .not t1 b ts2 h1).1)
            obtain ⟨o2, n2, s2, x2, l2, c2, rfl⟩ := hvb.agg
            clear a0 a1 a2 a3 f0 f1 f2 f3 hb5 h1 hvb hst5
            have HG5 := Lib.hid (HGN.out.but HB5.out (by have := HI1.out.lt; omega))
            obtain ⟨a0, a1, a2, a3, bf⟩ := HG5.out.cells
            clear bf
            refine hK _ _ ?_
            clear hK K
            refine wpAny_ready (rs := [0]) (by kernel_rfl) (by simp) ?_
            refine AllReady.cons rfl (fun K hK => ?_) AllReady.nil
            go_simp
            refine hK _ _ ?_
            clear hK K
            refine wpAny_ready (rs := [3]) (by kernel_rfl) (by simp) ?_
            refine AllReady.cons rfl (fun K hK => ?_) AllReady.nil
            go_simp
            go_wp2_with (first | (go_at_call 106; fail))
            refine (wpair (fun b => w.heap.size ≤ b ∧ b ≠ w.heap.size ∧ b ≠ g) wand _ _ a' b _ ?_ ?_ ?_).mono ?_
            · intro b hb; have h1 := HG5.out.lt; have h2 := HI1.out.lt; show _ ∧ _ ∧ _; omega
            · exact HVN.out.but (by have := HI1.out.lt; intro h; omega) HB5.out
            · exact H5.out.2.1.sub (fun b hb _ => by have h1 := HGN.out.lt; have h2 := HI1.out.lt; have h3 : w3.heap.size ≤ b := hb; show _ ∧ _ ∧ _; omega)
            rintro e w6 ⟨v6, rfl, hv6, hb6⟩
            obtain ⟨o6, n6, s6, x6, l6, c6, rfl⟩ := hv6.agg
            have HG6 := Lib.hid (HG5.out.below hb6)
            have H6 := Lib.hid (And.intro hv6 hb6)
            clear a0 a1 a2 a3 hv6 hb6
            obtain ⟨a0, a1, a2, a3, bf⟩ := HG6.out.cells
            have f0 := bf 0
            have f1 := bf 1
            have f2 := bf 2
            have f3 := bf 3
            clear bf
            refine hK _ _ ?_
            clear hK K
            refine wpAny_ready (rs := [4]) (by kernel_rfl) (by simp) ?_
            refine AllReady.cons rfl (fun K hK => ?_) AllReady.nil
            go_simp
            refine hK _ _ ?_
            clear hK K
            refine wpAny_done (by kernel_rfl) ?_ _
            go_wp2
            have HN2 := HLT.out
            have HN3 := HL5.out
            go_roundg ts2.length
            case measure => omega
            case rel => exact ⟨f, ts2, two wand a' b, rfl, Lib.hid (by rw [HP2.out, HB.out.2]; simp only; rw [H5.out.1]), Lib.hid (by have := HF.out; omega), Lib.hid (LI.next HI1.out (HB.out.1.trans HB5.out) H5.out.2.2 H6.out.2 H6.out.1 rfl)⟩
end Go.Proofs.YtdomglkcfecnnaaGreat
