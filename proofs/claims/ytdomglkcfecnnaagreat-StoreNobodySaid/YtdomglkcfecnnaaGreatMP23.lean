/- Own texts, merged: QA, QB, QC. -/
import Derived.Test.YtdomglkcfecnnaaGreatMP22
/- Walks: sum, product. -/
namespace Go.Proofs.YtdomglkcfecnnaaGreat
open Go.RowKit Go.Shelf
attribute [local go_sem] run_store_float
set_option maxRecDepth 100000 in
set_option maxHeartbeats 4000000 in
theorem wsum_step (V : Bs → Nat) (s : Bs) (ok : Bool) (hs : s.length ≤ 1000000) (n : Nat) (H : ∀ k, k ≤ n → PC V s ok 156 .prod 4 k) : PC V s ok 147 .sum 6 (n + 1) := by
  intro r ts w hn hst
  have HST := Lib.hid hst
  have HN := Lib.hid hn
  have HSL := Lib.hid hs
  have HH := Lib.hid H
  obtain ⟨res, hres⟩ : ∃ x, x = P V ok (n + 1) .sum ts := ⟨_, rfl⟩
  rw [← hres]
  have HR := Lib.hid hres
  clear hst hn hs H hres
  go_enter Tryz.func147, Tryz.ntmps147
  go_wp2_with (first | (go_at_call 156; fail))
  go_at_call 156
  refine (HH.out n (Nat.le_refl _) r ts _ (by have := HN.out; omega) (HST.out.below ((Below.refl _ _).alloc (Nat.le_refl _) _))).mono ?_
  rintro e w2 ⟨hb2, ⟨h1, rfl⟩ | ⟨a, ts1, v, h1, rfl, hv, hst1⟩⟩
  · have HB := Lib.hid hb2
    have HV := Lib.hid h1
    clear hb2 h1
    go_wp2
    refine ⟨rfl, (But.of ((Below.refl _ _).alloc (Nat.le_refl _) _)).trans HB.out, .inl ⟨?_, rfl⟩⟩
    rw [HR.out]
    simp only [P]
    rw [HV.out]
  · have HB := Lib.hid hb2
    have HV := Lib.hid h1
    have HND := Lib.hid hv
    have HS1 := Lib.hid hst1
    obtain ⟨o0, n0, s0, x0, l0, c0, rfl⟩ := hv.agg
    have HI : Hid (LI w r s ok w.heap.size w2.heap.size ts1 a (w2.alloc (.cells #[.string o0, .float .f64 n0, .string s0, .slice x0 l0 c0] 119))) :=
      Lib.hid (LI.start HST.out.lt ⟨_, _, _, _, rfl, heap_alloc_new _ _⟩ ((Below.refl _ _).alloc (Nat.le_refl _) _) (by simp) HB.out HND.out HS1.out)
    have HP : Hid (res = P V ok n (.sumT a) ts1) := Lib.hid (by rw [HR.out]; simp only [P]; rw [HV.out])
    have HLS := Lib.hid ((P_len V ok n .prod ts a ts1 HV.out).1)
    clear hb2 h1 hv hst1
    have HG : Hid (w.heap.size < w2.heap.size) := Lib.hid HI.out.lt.2.2
    go_wp2_with fail
    clear HB HV HND HS1 HR
    generalize w2.alloc (.cells #[.string o0, .float .f64 n0, .string s0, .slice x0 l0 c0] 119) = W0 at HI ⊢
    generalize w2.heap.size = g at HI HG ⊢
    go_loopg [] ts1.length (fun gh wr => ∃ f ts' a', ts'.length = gh ∧ Hid (res = P V ok f (.sumT a') ts') ∧ Hid (12 * ts'.length + 5 ≤ f ∧ f ≤ n) ∧ Hid (LI w r s ok w.heap.size g ts' a' wr))
    case atStart => exact ⟨n, ts1, a, rfl, HP, Lib.hid (by have := HN.out; have := HLS.out; omega), HI⟩
    case round =>
      obtain ⟨f, ts', a', hl, HP1, HF, HI1⟩ := hrel
      obtain ⟨f, rfl⟩ : ∃ f', f = f' + 1 := ⟨f - 1, by have := HF.out; omega⟩
      have HIS1 : Hid (Calls Tryz.prog 105 #[.pointer (some ⟨r, 0, none⟩), .int .i64 4, .string ⟨#[43]⟩] wr fun e w' => e = .returned (.bool (isTok ts' 4 [43])) ∧ wr = w') := Lib.hid (wisT r s ok ts' 4 (by omega) [43] wr HI1.out.st)
      have HIS2 : Hid (Calls Tryz.prog 105 #[.pointer (some ⟨r, 0, none⟩), .int .i64 4, .string ⟨#[45]⟩] wr fun e w' => e = .returned (.bool (isTok ts' 4 [45])) ∧ wr = w') := Lib.hid (wisT r s ok ts' 4 (by omega) [45] wr HI1.out.st)
      by_cases hq : isTok ts' 4 [43] = false ∧ isTok ts' 4 [45] = false
      · rw [hq.1] at HIS1
        rw [hq.2] at HIS2
        have HV : Hid (res = some (a', ts')) := Lib.hid (by rw [HP1.out]; simp only [P]; rw [hq.1, hq.2]; rfl)
        clear hq
        obtain ⟨v, hv, hg⟩ := HI1.out.node
        obtain ⟨o1, n1, s1, x1, l1, c1, rfl⟩ := hv.agg
        obtain ⟨z, hz⟩ := HI1.out.res
        obtain ⟨z0, z1, z2, z3, rfl, hz'⟩ := hz
        have HZ : Hid (NB wr w.heap.size (.agg #[z0, z1, z2, z3])) := Lib.hid ⟨z0, z1, z2, z3, rfl, hz'⟩
        have HVN := Lib.hid hv
        obtain ⟨a0, a1, a2, a3, _⟩ := hg.cells
        obtain ⟨b0, b1, b2, b3, bf⟩ := HZ.out.cells
        have f0 := bf 0
        have f1 := bf 1
        have f2 := bf 2
        have f3 := bf 3
        clear hv hg hz' bf
        go_wp2_with (first | (go_at_call 105; (with_reducible refine (HIS1.out).mono ?_); rintro e w5 ⟨rfl, rfl⟩) | (go_at_call 105; (with_reducible refine (HIS2.out).mono ?_); rintro e w5 ⟨rfl, rfl⟩))
        go_wp2
        rw [HV.out]
        exact bodyPost_ret (node_res rfl _ _ w.heap.size _ _ _ _ rfl HZ.out.put.heap) rfl (LI.done HI1.out HVN.out)
      · have HNE : Hid (ts' ≠ []) := Lib.hid (fun e => by rw [e] at hq; exact hq ⟨rfl, rfl⟩)
        have hq0 : isTok ts' 4 [43] = true ∨ (isTok ts' 4 [43] = false ∧ isTok ts' 4 [45] = true) := by
          cases h1 : isTok ts' 4 [43]
          · cases h2 : isTok ts' 4 [45]
            · exact absurd ⟨h1, h2⟩ hq
            · exact .inr ⟨rfl, rfl⟩
          · exact .inl rfl
        obtain ⟨t0, tr, htr⟩ : ∃ t0 tr, ts' = t0 :: tr := by
          cases ts' with
          | nil => exact absurd rfl HNE.out
          | cons t0 tr => exact ⟨t0, tr, rfl⟩
        have HT0 := Lib.hid htr
        have HC3 : Hid (∃ a k, Rd wr r s a k t0.s) := Lib.hid (by
          obtain ⟨a, k, g, ha, hr, ⟨h1, _⟩ | ⟨t, rest, h1, h2, h3, _⟩⟩ := HI1.out.st
          · exact absurd h1 HNE.out
          · rw [htr] at h1; cases h1; exact ⟨a, k, h3 ▸ hr⟩)
        clear htr
        have HAD := Lib.hid (wadv r s ok ts' HSL.out HNE.out wr HI1.out.st)
        have HP2 : Hid (res = match adv ok ts' with
          | none => none
          | some t1 => match P V ok f .prod t1 with
            | none => none
            | some (b, r) => P V ok f (.sumT (two t0.s a' b)) r) := Lib.hid (by rw [HP1.out]; simp only [P]; rw [if_pos (by exact hq0.elim .inl (fun h => .inr h.2)), HT0.out]; rfl)
        clear hq
        obtain ⟨ca, ck, hcr⟩ := HC3.out
        obtain ⟨_, _, _, c3, _, _⟩ := hcr.cells
        clear hcr
        have hq1 : (∀ K : Prop, ((isTok ts' 4 [43] = true → K) → (isTok ts' 4 [43] = false → isTok ts' 4 [45] = true → K) → K)) := fun K h1 h2 => hq0.elim h1 (fun h => h2 h.1 h.2)
        clear hq0
        refine hq1 _ (fun h1 => ?_) (fun h1 h2 => ?_)
        all_goals
          clear hq1
          rw [h1] at HIS1
          try rw [h2] at HIS2
          clear h1
          try clear h2
          go_wp2_with (first | (go_at_call 105; (with_reducible refine (HIS1.out).mono ?_); rintro e w5 ⟨rfl, rfl⟩) | (go_at_call 105; (with_reducible refine (HIS2.out).mono ?_); rintro e w5 ⟨rfl, rfl⟩))
          go_at_call 82
          refine (HAD.out).mono ?_
          rintro e w3 ⟨hb3, ⟨h1, rfl⟩ | ⟨t1, h1, rfl, hst3⟩⟩
          · have HB := Lib.hid (And.intro hb3 h1)
            clear hb3 h1
            go_wp2
            refine ⟨rfl, HI1.out.bt.trans HB.out.1, .inl ⟨?_, rfl⟩⟩
            rw [HP2.out, HB.out.2]
          · have HB := Lib.hid (And.intro hb3 h1)
            have HS3 := Lib.hid hst3
            have HLT := Lib.hid (adv_len h1).1
            clear hb3 h1 hst3 c3
            obtain ⟨v, hv, hg⟩ := HI1.out.node
            obtain ⟨o1, n1, s1, x1, l1, c1, rfl⟩ := hv.agg
            have HVN := Lib.hid (hv.but (by have := HI1.out.lt; intro h; omega) HB.out.1)
            have HGN := Lib.hid (hg.but HB.out.1 (by have := HI1.out.lt; omega))
            obtain ⟨a0, a1, a2, a3, bf⟩ := HGN.out.cells
            have f0 := bf 0
            have f1 := bf 1
            have f2 := bf 2
            have f3 := bf 3
            have HAND := Lib.hid (fun W h => HH.out f (by have := HF.out; omega) r t1 W (by have := HF.out; have := HLT.out; omega) h)
            clear hv hg bf
            go_wp2_with fail
            refine wp_region_any (by kernel_rfl) ?_
            change wpAny _ _ _ _ _ _ _ (World.drew _)
            refine wpAny_take (i := 0) (v := _) rfl (by kernel_rfl) (by kernel_rfl) (by kernel_rfl) (fun _ _ _ h => h) (Or.inl ⟨by rfl, by intro w; go_simp; try (with_reducible rfl)⟩) ?_
            refine wpAny_take (i := 2) (v := _) rfl (by kernel_rfl) (by kernel_rfl) (by kernel_rfl) (fun _ _ _ h => h) (Or.inl ⟨by rfl, by intro w; go_simp; try (with_reducible rfl)⟩) ?_
            refine wpAny_ready (rs := [1, 3]) (by kernel_rfl) (by simp) ?_
            refine AllReady.cons rfl (fun K hK => ?_) (AllReady.cons rfl (fun K hK => ?_) AllReady.nil)
            · go_simp
              refine hK _ _ ?_
              clear hK K
              refine wpAny_ready (rs := [3]) (by kernel_rfl) (by simp) ?_
              refine AllReady.cons rfl (fun K hK => ?_) AllReady.nil
              go_simp
              go_wp2_with (first | (go_at_call 156; fail))
              refine (HAND.out _ HS3.out.drew).mono ?_
              rintro e w5 ⟨hb5, ⟨h1, rfl⟩ | ⟨b, ts2, vb, h1, rfl, hvb, hst5⟩⟩
              · exact ⟨rfl, (HI1.out.bt.trans HB.out.1).drew.trans hb5, .inl ⟨by rw [HP2.out, HB.out.2]; simp only; rw [h1], rfl⟩⟩
              have HB5 : Hid (But [r] w3 w5) := Lib.hid ((But.refl _ _).drew.trans hb5)
              have H5 := Lib.hid (And.intro h1 (And.intro hvb hst5))
              have HL5 := Lib.hid ((P_len V ok f .prod t1 b ts2 h1).1)
              obtain ⟨o2, n2, s2, x2, l2, c2, rfl⟩ := hvb.agg
              clear a0 a1 a2 a3 f0 f1 f2 f3 hb5 h1 hvb hst5
              have HG5 := Lib.hid (HGN.out.but HB5.out (by have := HI1.out.lt; omega))
              obtain ⟨a0, a1, a2, a3, bf⟩ := HG5.out.cells
              clear bf
              refine hK _ _ ?_
              clear hK K
              refine wpAny_ready (rs := [4]) (by kernel_rfl) (by simp) ?_
              refine AllReady.cons rfl (fun K hK => ?_) AllReady.nil
              go_simp
              go_wp2_with (first | (go_at_call 106; fail))
              refine (wpair (fun b => w.heap.size ≤ b ∧ b ≠ w.heap.size ∧ b ≠ g) t0.s _ _ a' b _ ?_ ?_ ?_).mono ?_
              · intro b hb; have h1 := HG5.out.lt; have h2 := HI1.out.lt; show _ ∧ _ ∧ _; omega
              · exact HVN.out.but (by have := HI1.out.lt; intro h; omega) HB5.out
              · exact H5.out.2.1.sub (fun b hb _ => by have h1 := HGN.out.lt; have h2 := HI1.out.lt; have h3 : w3.heap.size ≤ b := hb; show _ ∧ _ ∧ _; omega)
              rintro e w6 ⟨v6, rfl, hv6, hb6⟩
              obtain ⟨o6, n6, s6, x6, l6, c6, rfl⟩ := hv6.agg
              have HG6 := Lib.hid (HG5.out.below hb6)
              have H6 := Lib.hid (And.intro hv6 hb6)
              clear a0 a1 a2 a3 hv6 hb6
              obtain ⟨a0, a1, a2, a3, bf⟩ := HG6.out.cells
              have f0 := bf 0
              have f1 := bf 1
              have f2 := bf 2
              have f3 := bf 3
              clear bf
              refine hK _ _ ?_
              clear hK K
              refine wpAny_ready (rs := [5]) (by kernel_rfl) (by simp) ?_
              refine AllReady.cons rfl (fun K hK => ?_) AllReady.nil
              go_simp
              refine hK _ _ ?_
              clear hK K
              refine wpAny_done (by kernel_rfl) ?_ _
              go_wp2
              have HN2 := HLT.out
              have HN3 := HL5.out
              go_roundg ts2.length
              case measure => omega
              case rel => exact ⟨f, ts2, two t0.s a' b, rfl, Lib.hid (by rw [HP2.out, HB.out.2]; simp only; rw [H5.out.1]), Lib.hid (by have := HF.out; omega), Lib.hid (LI.next HI1.out (HB.out.1.trans HB5.out) H5.out.2.2 H6.out.2 H6.out.1 rfl)⟩
            · go_simp
              go_wp2_with (first | (go_at_call 156; fail))
              refine (HAND.out _ HS3.out.drew).mono ?_
              rintro e w5 ⟨hb5, ⟨h1, rfl⟩ | ⟨b, ts2, vb, h1, rfl, hvb, hst5⟩⟩
              · exact ⟨rfl, (HI1.out.bt.trans HB.out.1).drew.trans hb5, .inl ⟨by rw [HP2.out, HB.out.2]; simp only; rw [h1], rfl⟩⟩
              have HB5 : Hid (But [r] w3 w5) := Lib.hid ((But.refl _ _).drew.trans hb5)
              have H5 := Lib.hid (And.intro h1 (And.intro hvb hst5))
              have HL5 := Lib.hid ((P_len V ok f .prod t1 b ts2 h1).1)
              obtain ⟨o2, n2, s2, x2, l2, c2, rfl⟩ := hvb.agg
              clear a0 a1 a2 a3 f0 f1 f2 f3 hb5 h1 hvb hst5
              have HG5 := Lib.hid (HGN.out.but HB5.out (by have := HI1.out.lt; omega))
              obtain ⟨a0, a1, a2, a3, bf⟩ := HG5.out.cells
              clear bf
              refine hK _ _ ?_
              clear hK K
              refine wpAny_ready (rs := [1]) (by kernel_rfl) (by simp) ?_
              refine AllReady.cons rfl (fun K hK => ?_) AllReady.nil
              go_simp
              refine hK _ _ ?_
              clear hK K
              refine wpAny_ready (rs := [4]) (by kernel_rfl) (by simp) ?_
              refine AllReady.cons rfl (fun K hK => ?_) AllReady.nil
              go_simp
              go_wp2_with (first | (go_at_call 106; fail))
              refine (wpair (fun b => w.heap.size ≤ b ∧ b ≠ w.heap.size ∧ b ≠ g) t0.s _ _ a' b _ ?_ ?_ ?_).mono ?_
              · intro b hb; have h1 := HG5.out.lt; have h2 := HI1.out.lt; show _ ∧ _ ∧ _; omega
              · exact HVN.out.but (by have := HI1.out.lt; intro h; omega) HB5.out
              · exact H5.out.2.1.sub (fun b hb _ => by have h1 := HGN.out.lt; have h2 := HI1.out.lt; have h3 : w3.heap.size ≤ b := hb; show _ ∧ _ ∧ _; omega)
              rintro e w6 ⟨v6, rfl, hv6, hb6⟩
              obtain ⟨o6, n6, s6, x6, l6, c6, rfl⟩ := hv6.agg
              have HG6 := Lib.hid (HG5.out.below hb6)
              have H6 := Lib.hid (And.intro hv6 hb6)
              clear a0 a1 a2 a3 hv6 hb6
              obtain ⟨a0, a1, a2, a3, bf⟩ := HG6.out.cells
              have f0 := bf 0
              have f1 := bf 1
              have f2 := bf 2
              have f3 := bf 3
              clear bf
              refine hK _ _ ?_
              clear hK K
              refine wpAny_ready (rs := [5]) (by kernel_rfl) (by simp) ?_
              refine AllReady.cons rfl (fun K hK => ?_) AllReady.nil
              go_simp
              refine hK _ _ ?_
              clear hK K
              refine wpAny_done (by kernel_rfl) ?_ _
              go_wp2
              have HN2 := HLT.out
              have HN3 := HL5.out
              go_roundg ts2.length
              case measure => omega
              case rel => exact ⟨f, ts2, two t0.s a' b, rfl, Lib.hid (by rw [HP2.out, HB.out.2]; simp only; rw [H5.out.1]), Lib.hid (by have := HF.out; omega), Lib.hid (LI.next HI1.out (HB.out.1.trans HB5.out) H5.out.2.2 H6.out.2 H6.out.1 rfl)⟩
set_option maxRecDepth 100000 in
set_option maxHeartbeats 4000000 in
theorem wproduct_step (V : Bs → Nat) (s : Bs) (ok : Bool) (hs : s.length ≤ 1000000) (n : Nat) (H : ∀ k, k ≤ n → PC V s ok 161 .signed 2 k) : PC V s ok 156 .prod 4 (n + 1) := by
  intro r ts w hn hst
  have HST := Lib.hid hst
  have HN := Lib.hid hn
  have HSL := Lib.hid hs
  have HH := Lib.hid H
  obtain ⟨res, hres⟩ : ∃ x, x = P V ok (n + 1) .prod ts := ⟨_, rfl⟩
  rw [← hres]
  have HR := Lib.hid hres
  clear hst hn hs H hres
  go_enter Tryz.func156, Tryz.ntmps156
  go_wp2_with (first | (go_at_call 161; fail))
  go_at_call 161
  refine (HH.out n (Nat.le_refl _) r ts _ (by have := HN.out; omega) (HST.out.below ((Below.refl _ _).alloc (Nat.le_refl _) _))).mono ?_
  rintro e w2 ⟨hb2, ⟨h1, rfl⟩ | ⟨a, ts1, v, h1, rfl, hv, hst1⟩⟩
  · have HB := Lib.hid hb2
    have HV := Lib.hid h1
    clear hb2 h1
    go_wp2
    refine ⟨rfl, (But.of ((Below.refl _ _).alloc (Nat.le_refl _) _)).trans HB.out, .inl ⟨?_, rfl⟩⟩
    rw [HR.out]
    simp only [P]
    rw [HV.out]
  · have HB := Lib.hid hb2
    have HV := Lib.hid h1
    have HND := Lib.hid hv
    have HS1 := Lib.hid hst1
    obtain ⟨o0, n0, s0, x0, l0, c0, rfl⟩ := hv.agg
    have HI : Hid (LI w r s ok w.heap.size w2.heap.size ts1 a (w2.alloc (.cells #[.string o0, .float .f64 n0, .string s0, .slice x0 l0 c0] 119))) :=
      Lib.hid (LI.start HST.out.lt ⟨_, _, _, _, rfl, heap_alloc_new _ _⟩ ((Below.refl _ _).alloc (Nat.le_refl _) _) (by simp) HB.out HND.out HS1.out)
    have HP : Hid (res = P V ok n (.prodT a) ts1) := Lib.hid (by rw [HR.out]; simp only [P]; rw [HV.out])
    have HLS := Lib.hid ((P_len V ok n .signed ts a ts1 HV.out).1)
    clear hb2 h1 hv hst1
    have HG : Hid (w.heap.size < w2.heap.size) := Lib.hid HI.out.lt.2.2
    go_wp2_with fail
    clear HB HV HND HS1 HR
    generalize w2.alloc (.cells #[.string o0, .float .f64 n0, .string s0, .slice x0 l0 c0] 119) = W0 at HI ⊢
    generalize w2.heap.size = g at HI HG ⊢
    go_loopg [] ts1.length (fun gh wr => ∃ f ts' a', ts'.length = gh ∧ Hid (res = P V ok f (.prodT a') ts') ∧ Hid (12 * ts'.length + 3 ≤ f ∧ f ≤ n) ∧ Hid (LI w r s ok w.heap.size g ts' a' wr))
    case atStart => exact ⟨n, ts1, a, rfl, HP, Lib.hid (by have := HN.out; have := HLS.out; omega), HI⟩
    case round =>
      obtain ⟨f, ts', a', hl, HP1, HF, HI1⟩ := hrel
      obtain ⟨f, rfl⟩ : ∃ f', f = f' + 1 := ⟨f - 1, by have := HF.out; omega⟩
      have HIS1 : Hid (Calls Tryz.prog 105 #[.pointer (some ⟨r, 0, none⟩), .int .i64 4, .string ⟨#[42]⟩] wr fun e w' => e = .returned (.bool (isTok ts' 4 [42])) ∧ wr = w') := Lib.hid (wisT r s ok ts' 4 (by omega) [42] wr HI1.out.st)
      have HIS2 : Hid (Calls Tryz.prog 105 #[.pointer (some ⟨r, 0, none⟩), .int .i64 4, .string ⟨#[47]⟩] wr fun e w' => e = .returned (.bool (isTok ts' 4 [47])) ∧ wr = w') := Lib.hid (wisT r s ok ts' 4 (by omega) [47] wr HI1.out.st)
      by_cases hq : isTok ts' 4 [42] = false ∧ isTok ts' 4 [47] = false
      · rw [hq.1] at HIS1
        rw [hq.2] at HIS2
        have HV : Hid (res = some (a', ts')) := Lib.hid (by rw [HP1.out]; simp only [P]; rw [hq.1, hq.2]; rfl)
        clear hq
        obtain ⟨v, hv, hg⟩ := HI1.out.node
        obtain ⟨o1, n1, s1, x1, l1, c1, rfl⟩ := hv.agg
        obtain ⟨z, hz⟩ := HI1.out.res
        obtain ⟨z0, z1, z2, z3, rfl, hz'⟩ := hz
        have HZ : Hid (NB wr w.heap.size (.agg #[z0, z1, z2, z3])) := Lib.hid ⟨z0, z1, z2, z3, rfl, hz'⟩
        have HVN := Lib.hid hv
        obtain ⟨a0, a1, a2, a3, _⟩ := hg.cells
        obtain ⟨b0, b1, b2, b3, bf⟩ := HZ.out.cells
        have f0 := bf 0
        have f1 := bf 1
        have f2 := bf 2
        have f3 := bf 3
        clear hv hg hz' bf
        go_wp2_with (first | (go_at_call 105; (with_reducible refine (HIS1.out).mono ?_); rintro e w5 ⟨rfl, rfl⟩) | (go_at_call 105; (with_reducible refine (HIS2.out).mono ?_); rintro e w5 ⟨rfl, rfl⟩))
        go_wp2
        rw [HV.out]
        exact bodyPost_ret (node_res rfl _ _ w.heap.size _ _ _ _ rfl HZ.out.put.heap) rfl (LI.done HI1.out HVN.out)
      · have HNE : Hid (ts' ≠ []) := Lib.hid (fun e => by rw [e] at hq; exact hq ⟨rfl, rfl⟩)
        have hq0 : isTok ts' 4 [42] = true ∨ (isTok ts' 4 [42] = false ∧ isTok ts' 4 [47] = true) := by
          cases h1 : isTok ts' 4 [42]
          · cases h2 : isTok ts' 4 [47]
            · exact absurd ⟨h1, h2⟩ hq
            · exact .inr ⟨rfl, rfl⟩
          · exact .inl rfl
        obtain ⟨t0, tr, htr⟩ : ∃ t0 tr, ts' = t0 :: tr := by
          cases ts' with
          | nil => exact absurd rfl HNE.out
          | cons t0 tr => exact ⟨t0, tr, rfl⟩
        have HT0 := Lib.hid htr
        have HC3 : Hid (∃ a k, Rd wr r s a k t0.s) := Lib.hid (by
          obtain ⟨a, k, g, ha, hr, ⟨h1, _⟩ | ⟨t, rest, h1, h2, h3, _⟩⟩ := HI1.out.st
          · exact absurd h1 HNE.out
          · rw [htr] at h1; cases h1; exact ⟨a, k, h3 ▸ hr⟩)
        clear htr
        have HAD := Lib.hid (wadv r s ok ts' HSL.out HNE.out wr HI1.out.st)
        have HP2 : Hid (res = match adv ok ts' with
          | none => none
          | some t1 => match P V ok f .signed t1 with
            | none => none
            | some (b, r) => P V ok f (.prodT (two t0.s a' b)) r) := Lib.hid (by rw [HP1.out]; simp only [P]; rw [if_pos (by exact hq0.elim .inl (fun h => .inr h.2)), HT0.out]; rfl)
        clear hq
        obtain ⟨ca, ck, hcr⟩ := HC3.out
        obtain ⟨_, _, _, c3, _, _⟩ := hcr.cells
        clear hcr
        have hq1 : (∀ K : Prop, ((isTok ts' 4 [42] = true → K) → (isTok ts' 4 [42] = false → isTok ts' 4 [47] = true → K) → K)) := fun K h1 h2 => hq0.elim h1 (fun h => h2 h.1 h.2)
        clear hq0
        refine hq1 _ (fun h1 => ?_) (fun h1 h2 => ?_)
        all_goals
          clear hq1
          rw [h1] at HIS1
          try rw [h2] at HIS2
          clear h1
          try clear h2
          go_wp2_with (first | (go_at_call 105; (with_reducible refine (HIS1.out).mono ?_); rintro e w5 ⟨rfl, rfl⟩) | (go_at_call 105; (with_reducible refine (HIS2.out).mono ?_); rintro e w5 ⟨rfl, rfl⟩))
          go_at_call 82
          refine (HAD.out).mono ?_
          rintro e w3 ⟨hb3, ⟨h1, rfl⟩ | ⟨t1, h1, rfl, hst3⟩⟩
          · have HB := Lib.hid (And.intro hb3 h1)
            clear hb3 h1
            go_wp2
            refine ⟨rfl, HI1.out.bt.trans HB.out.1, .inl ⟨?_, rfl⟩⟩
            rw [HP2.out, HB.out.2]
          · have HB := Lib.hid (And.intro hb3 h1)
            have HS3 := Lib.hid hst3
            have HLT := Lib.hid (adv_len h1).1
            clear hb3 h1 hst3 c3
            obtain ⟨v, hv, hg⟩ := HI1.out.node
            obtain ⟨o1, n1, s1, x1, l1, c1, rfl⟩ := hv.agg
            have HVN := Lib.hid (hv.but (by have := HI1.out.lt; intro h; omega) HB.out.1)
            have HGN := Lib.hid (hg.but HB.out.1 (by have := HI1.out.lt; omega))
            obtain ⟨a0, a1, a2, a3, bf⟩ := HGN.out.cells
            have f0 := bf 0
            have f1 := bf 1
            have f2 := bf 2
            have f3 := bf 3
            have HAND := Lib.hid (fun W h => HH.out f (by have := HF.out; omega) r t1 W (by have := HF.out; have := HLT.out; omega) h)
            clear hv hg bf
            go_wp2_with fail
            refine wp_region_any (by kernel_rfl) ?_
            change wpAny _ _ _ _ _ _ _ (World.drew _)
            refine wpAny_take (i := 0) (v := _) rfl (by kernel_rfl) (by kernel_rfl) (by kernel_rfl) (fun _ _ _ h => h) (Or.inl ⟨by rfl, by intro w; go_simp; try (with_reducible rfl)⟩) ?_
            refine wpAny_take (i := 2) (v := _) rfl (by kernel_rfl) (by kernel_rfl) (by kernel_rfl) (fun _ _ _ h => h) (Or.inl ⟨by rfl, by intro w; go_simp; try (with_reducible rfl)⟩) ?_
            refine wpAny_ready (rs := [1, 3]) (by kernel_rfl) (by simp) ?_
            refine AllReady.cons rfl (fun K hK => ?_) (AllReady.cons rfl (fun K hK => ?_) AllReady.nil)
            · go_simp
              refine hK _ _ ?_
              clear hK K
              refine wpAny_ready (rs := [3]) (by kernel_rfl) (by simp) ?_
              refine AllReady.cons rfl (fun K hK => ?_) AllReady.nil
              go_simp
              go_wp2_with (first | (go_at_call 161; fail))
              refine (HAND.out _ HS3.out.drew).mono ?_
              rintro e w5 ⟨hb5, ⟨h1, rfl⟩ | ⟨b, ts2, vb, h1, rfl, hvb, hst5⟩⟩
              · exact ⟨rfl, (HI1.out.bt.trans HB.out.1).drew.trans hb5, .inl ⟨by rw [HP2.out, HB.out.2]; simp only; rw [h1], rfl⟩⟩
              have HB5 : Hid (But [r] w3 w5) := Lib.hid ((But.refl _ _).drew.trans hb5)
              have H5 := Lib.hid (And.intro h1 (And.intro hvb hst5))
              have HL5 := Lib.hid ((P_len V ok f .signed t1 b ts2 h1).1)
              obtain ⟨o2, n2, s2, x2, l2, c2, rfl⟩ := hvb.agg
              clear a0 a1 a2 a3 f0 f1 f2 f3 hb5 h1 hvb hst5
              have HG5 := Lib.hid (HGN.out.but HB5.out (by have := HI1.out.lt; omega))
              obtain ⟨a0, a1, a2, a3, bf⟩ := HG5.out.cells
              clear bf
              refine hK _ _ ?_
              clear hK K
              refine wpAny_ready (rs := [4]) (by kernel_rfl) (by simp) ?_
              refine AllReady.cons rfl (fun K hK => ?_) AllReady.nil
              go_simp
              go_wp2_with (first | (go_at_call 106; fail))
              refine (wpair (fun b => w.heap.size ≤ b ∧ b ≠ w.heap.size ∧ b ≠ g) t0.s _ _ a' b _ ?_ ?_ ?_).mono ?_
              · intro b hb; have h1 := HG5.out.lt; have h2 := HI1.out.lt; show _ ∧ _ ∧ _; omega
              · exact HVN.out.but (by have := HI1.out.lt; intro h; omega) HB5.out
              · exact H5.out.2.1.sub (fun b hb _ => by have h1 := HGN.out.lt; have h2 := HI1.out.lt; have h3 : w3.heap.size ≤ b := hb; show _ ∧ _ ∧ _; omega)
              rintro e w6 ⟨v6, rfl, hv6, hb6⟩
              obtain ⟨o6, n6, s6, x6, l6, c6, rfl⟩ := hv6.agg
              have HG6 := Lib.hid (HG5.out.below hb6)
              have H6 := Lib.hid (And.intro hv6 hb6)
              clear a0 a1 a2 a3 hv6 hb6
              obtain ⟨a0, a1, a2, a3, bf⟩ := HG6.out.cells
              have f0 := bf 0
              have f1 := bf 1
              have f2 := bf 2
              have f3 := bf 3
              clear bf
              refine hK _ _ ?_
              clear hK K
              refine wpAny_ready (rs := [5]) (by kernel_rfl) (by simp) ?_
              refine AllReady.cons rfl (fun K hK => ?_) AllReady.nil
              go_simp
              refine hK _ _ ?_
              clear hK K
              refine wpAny_done (by kernel_rfl) ?_ _
              go_wp2
              have HN2 := HLT.out
              have HN3 := HL5.out
              go_roundg ts2.length
              case measure => omega
              case rel => exact ⟨f, ts2, two t0.s a' b, rfl, Lib.hid (by rw [HP2.out, HB.out.2]; simp only; rw [H5.out.1]), Lib.hid (by have := HF.out; omega), Lib.hid (LI.next HI1.out (HB.out.1.trans HB5.out) H5.out.2.2 H6.out.2 H6.out.1 rfl)⟩
            · go_simp
              go_wp2_with (first | (go_at_call 161; fail))
              refine (HAND.out _ HS3.out.drew).mono ?_
              rintro e w5 ⟨hb5, ⟨h1, rfl⟩ | ⟨b, ts2, vb, h1, rfl, hvb, hst5⟩⟩
              · exact ⟨rfl, (HI1.out.bt.trans HB.out.1).drew.trans hb5, .inl ⟨by rw [HP2.out, HB.out.2]; simp only; rw [h1], rfl⟩⟩
              have HB5 : Hid (But [r] w3 w5) := Lib.hid ((But.refl _ _).drew.trans hb5)
              have H5 := Lib.hid (And.intro h1 (And.intro hvb hst5))
              have HL5 := Lib.hid ((P_len V ok f .signed t1 b ts2 h1).1)
              obtain ⟨o2, n2, s2, x2, l2, c2, rfl⟩ := hvb.agg
              clear a0 a1 a2 a3 f0 f1 f2 f3 hb5 h1 hvb hst5
              have HG5 := Lib.hid (HGN.out.but HB5.out (by have := HI1.out.lt; omega))
              obtain ⟨a0, a1, a2, a3, bf⟩ := HG5.out.cells
              clear bf
              refine hK _ _ ?_
              clear hK K
              refine wpAny_ready (rs := [1]) (by kernel_rfl) (by simp) ?_
              refine AllReady.cons rfl (fun K hK => ?_) AllReady.nil
              go_simp
              refine hK _ _ ?_
              clear hK K
              refine wpAny_ready (rs := [4]) (by kernel_rfl) (by simp) ?_
              refine AllReady.cons rfl (fun K hK => ?_) AllReady.nil
              go_simp
              go_wp2_with (first | (go_at_call 106; fail))
              refine (wpair (fun b => w.heap.size ≤ b ∧ b ≠ w.heap.size ∧ b ≠ g) t0.s _ _ a' b _ ?_ ?_ ?_).mono ?_
              · intro b hb; have h1 := HG5.out.lt; have h2 := HI1.out.lt; show _ ∧ _ ∧ _; omega
              · exact HVN.out.but (by have := HI1.out.lt; intro h; omega) HB5.out
              · exact H5.out.2.1.sub (fun b hb _ => by have h1 := HGN.out.lt; have h2 := HI1.out.lt; have h3 : w3.heap.size ≤ b := hb; show _ ∧ _ ∧ _; omega)
              rintro e w6 ⟨v6, rfl, hv6, hb6⟩
              obtain ⟨o6, n6, s6, x6, l6, c6, rfl⟩ := hv6.agg
              have HG6 := Lib.hid (HG5.out.below hb6)
              have H6 := Lib.hid (And.intro hv6 hb6)
              clear a0 a1 a2 a3 hv6 hb6
              obtain ⟨a0, a1, a2, a3, bf⟩ := HG6.out.cells
              have f0 := bf 0
              have f1 := bf 1
              have f2 := bf 2
              have f3 := bf 3
              clear bf
              refine hK _ _ ?_
              clear hK K
              refine wpAny_ready (rs := [5]) (by kernel_rfl) (by simp) ?_
              refine AllReady.cons rfl (fun K hK => ?_) AllReady.nil
              go_simp
              refine hK _ _ ?_
              clear hK K
              refine wpAny_done (by kernel_rfl) ?_ _
              go_wp2
              have HN2 := HLT.out
              have HN3 := HL5.out
              go_roundg ts2.length
              case measure => omega
              case rel => exact ⟨f, ts2, two t0.s a' b, rfl, Lib.hid (by rw [HP2.out, HB.out.2]; simp only; rw [H5.out.1]), Lib.hid (by have := HF.out; omega), Lib.hid (LI.next HI1.out (HB.out.1.trans HB5.out) H5.out.2.2 H6.out.2 H6.out.1 rfl)⟩
end Go.Proofs.YtdomglkcfecnnaaGreat
/- Walks: not, signed, inside. -/
namespace Go.Proofs.YtdomglkcfecnnaaGreat
open Go.RowKit Go.Shelf
attribute [local go_sem] run_store_float
/-- What a reader of one part keeps: the result's variable g0. -/
structure RI (w : World) (r : Nat) (s : Bs) (ok : Bool) (g0 : Nat) (ts : List Tok) (W : World) : Prop where
  st : St r s ok ts W
  res : ∃ z0 z1 z2 z3, NB W g0 (.agg #[z0, z1, z2, z3])
  bt : But [r] w W
  lt : r < w.heap.size ∧ w.heap.size ≤ g0
theorem RI.start {w : World} {r : Nat} {s : Bs} {ok : Bool} {ts : List Tok} {v0 v1 v2 v3 : Value} (hst : St r s ok ts w) : RI w r s ok w.heap.size ts (w.alloc (.cells #[v0, v1, v2, v3] 119)) :=
  ⟨hst.below ((Below.refl _ _).alloc (Nat.le_refl _) _), ⟨v0, v1, v2, v3, _, _, _, _, rfl, heap_alloc_new _ _⟩, But.of ((Below.refl _ _).alloc (Nat.le_refl _) _), hst.lt, Nat.le_refl _⟩
theorem RI.but {w W W' : World} {r : Nat} {s : Bs} {ok : Bool} {g0 : Nat} {ts ts' : List Tok} (h : RI w r s ok g0 ts W) (hb : But [r] W W') (hst : St r s ok ts' W') : RI w r s ok g0 ts' W' := by
  obtain ⟨z0, z1, z2, z3, hz⟩ := h.res
  exact ⟨hst, ⟨z0, z1, z2, z3, hz.but hb (by have := h.lt; omega)⟩, h.bt.trans hb, h.lt⟩
theorem RI.below {w W W' : World} {r : Nat} {s : Bs} {ok : Bool} {g0 : Nat} {ts : List Tok} (h : RI w r s ok g0 ts W) (hb : Below W.heap.size W W') : RI w r s ok g0 ts W' := by
  obtain ⟨z0, z1, z2, z3, hz⟩ := h.res
  exact ⟨h.st.below hb, ⟨z0, z1, z2, z3, hz.below hb⟩, h.bt.below hb, h.lt⟩
theorem RI.done {w W : World} {r : Nat} {s : Bs} {ok : Bool} {g0 : Nat} {ts : List Tok} {a : Tree} {v0 v1 v2 v3 : Value} (h : RI w r s ok g0 ts W) (hv : NodeV (fun b => w.heap.size ≤ b ∧ b ≠ g0) W (.agg #[v0, v1, v2, v3]) a) :
    PEnd r s ok (some (a, ts)) w (.returned (.agg #[v0, v1, v2, v3])) (putN W g0 v0 v1 v2 v3) := by
  have hl := h.lt
  refine ⟨⟨h.bt.os, h.bt.tape, h.bt.output, by rw [putN_size]; exact h.bt.size, fun j h1 h2 => ?_⟩, .inr ⟨a, ts, _, rfl, rfl, ?_, ?_⟩⟩
  · rw [putN_other (by omega)]; exact h.bt.block j h1 h2
  · exact NodeV.kept (by rw [putN_size]; exact Nat.le_refl _) (fun b h1 _ => ⟨h1.1, putN_other h1.2⟩) a _ hv
  · exact h.st.kept (putN_other (by omega))
theorem RI.lt0 {w W : World} {r : Nat} {s : Bs} {ok : Bool} {g0 : Nat} {ts : List Tok} (h : RI w r s ok g0 ts W) : g0 < W.heap.size := by
  obtain ⟨z0, z1, z2, z3, hz⟩ := h.res
  exact hz.lt
set_option maxRecDepth 100000 in
set_option maxHeartbeats 4000000 in
theorem wsigned_step (V : Bs → Nat) (s : Bs) (ok : Bool) (hs : s.length ≤ 1000000) (n : Nat) (H : ∀ k, k ≤ n → PC V s ok 161 .signed 2 k) (HA : ∀ k, k ≤ n → PC V s ok 164 .atom 1 k) : PC V s ok 161 .signed 2 (n + 1) := by
  intro r ts w hn hst
  have HI := Lib.hid (RI.start (v0 := .string ⟨#[]⟩) (v1 := .float .f64 0) (v2 := .string ⟨#[]⟩) (v3 := .slice none 0 0) hst)
  have HN := Lib.hid hn
  have HSL := Lib.hid hs
  have HH := Lib.hid H
  have HHA := Lib.hid HA
  obtain ⟨res, hres⟩ : ∃ x, x = P V ok (n + 1) .signed ts := ⟨_, rfl⟩
  rw [← hres]
  have HR := Lib.hid hres
  have HIS := Lib.hid (wisT r s ok ts 4 (by omega) [45] _ HI.out.st)
  clear hst hn hs H HA hres
  go_enter Tryz.func161, Tryz.ntmps161
  cases hq : isTok ts 4 [45]
  · rw [hq] at HIS
    have HV : Hid (res = P V ok n .atom ts) := Lib.hid (by rw [HR.out]; simp only [P]; rw [hq]; rfl)
    clear hq HR
    go_wp2_with (first | (go_at_call 105; refine (HIS.out).mono ?_; rintro e w5 ⟨rfl, rfl⟩))
    clear HIS
    generalize w.alloc (.cells #[.string ⟨#[]⟩, .float .f64 0, .string ⟨#[]⟩, .slice none 0 0] 119) = W0 at HI ⊢
    go_at_call 164
    refine (HHA.out n (Nat.le_refl _) r ts _ (by have := HN.out; omega) HI.out.st).mono ?_
    rintro e w2 ⟨hb2, ⟨h1, rfl⟩ | ⟨a, ts1, v, h1, rfl, hv, hst1⟩⟩
    · have HB := Lib.hid (And.intro hb2 h1)
      clear hb2 h1
      go_wp2
      exact ⟨rfl, HI.out.bt.trans HB.out.1, .inl ⟨HV.out.trans HB.out.2, rfl⟩⟩
    · have HI2 := Lib.hid (HI.out.but hb2 hst1)
      have HB := Lib.hid (And.intro hv h1)
      have HL0 := Lib.hid HI.out.lt0
      obtain ⟨o1, n1, s1, x1, l1, c1, rfl⟩ := hv.agg
      obtain ⟨z0, z1, z2, z3, hz⟩ := HI2.out.res
      have HZ := Lib.hid hz
      obtain ⟨b0, b1, b2, b3, bf⟩ := hz.cells
      have f0 := bf 0
      have f1 := bf 1
      have f2 := bf 2
      have f3 := bf 3
      clear hb2 h1 hv hst1 hz bf
      go_wp2
      rw [HV.out, HB.out.2]
      exact bodyPost_ret (node_res rfl _ _ w.heap.size _ _ _ _ rfl HZ.out.put.heap) rfl (RI.done HI2.out (HB.out.1.sub (fun b h _ => by have h1 := HI.out.bt.size; have h2 := HL0.out; have h3 : W0.heap.size ≤ b := h; show _ ∧ _; omega)))
  · have HNE : Hid (ts ≠ []) := Lib.hid (fun e => by rw [e] at hq; cases hq)
    rw [hq] at HIS
    have HV : Hid (res = match adv ok ts with
      | none => none
      | some t1 => match P V ok n .signed t1 with
        | none => none
        | some (b, r) => some (one wneg b, r)) := Lib.hid (by rw [HR.out]; simp only [P]; rw [if_pos hq]; rfl)
    clear hq HR
    go_wp2_with (first | (go_at_call 105; refine (HIS.out).mono ?_; rintro e w5 ⟨rfl, rfl⟩))
    clear HIS
    generalize w.alloc (.cells #[.string ⟨#[]⟩, .float .f64 0, .string ⟨#[]⟩, .slice none 0 0] 119) = W0 at HI ⊢
    go_at_call 82
    refine (wadv r s ok ts HSL.out HNE.out _ HI.out.st).mono ?_
    rintro e w3 ⟨hb3, ⟨h1, rfl⟩ | ⟨t1, h1, rfl, hst3⟩⟩
    · have HB := Lib.hid (And.intro hb3 h1)
      clear hb3 h1
      go_wp2
      exact ⟨rfl, HI.out.bt.trans HB.out.1, .inl ⟨by rw [HV.out, HB.out.2], rfl⟩⟩
    · have HI3 := Lib.hid (HI.out.but hb3 hst3)
      have HT := Lib.hid h1
      have HLT := Lib.hid (adv_len h1).1
      clear hb3 h1 hst3
      go_wp2_with (first | (go_at_call 161; fail))
      go_at_call 161
      refine (HH.out n (Nat.le_refl _) r t1 _ (by have := HN.out; have := HLT.out; omega) HI3.out.st).mono ?_
      rintro e w2 ⟨hb2, ⟨h1, rfl⟩ | ⟨a, ts1, v, h1, rfl, hv, hst1⟩⟩
      · have HB := Lib.hid (And.intro hb2 h1)
        clear hb2 h1
        go_wp2
        exact ⟨rfl, HI3.out.bt.trans HB.out.1, .inl ⟨by rw [HV.out, HT.out]; simp only; rw [HB.out.2], rfl⟩⟩
      · have HI2 := Lib.hid (HI3.out.but hb2 hst1)
        have HB := Lib.hid (And.intro hv h1)
        have HL0 := Lib.hid HI3.out.lt0
        clear hb2 h1 hv hst1
        go_wp2_with (first | (go_at_call 146; fail))
        refine (wsingle (fun b => w.heap.size ≤ b ∧ b ≠ w.heap.size) wneg v a _ ?_ ?_).mono ?_
        · intro b hb; have h1 := HI2.out.lt0; have h2 := HI2.out.bt.size; show _ ∧ _; omega
        · exact HB.out.1.sub (fun b h _ => by have h1 := HI3.out.bt.size; have h2 := HL0.out; have h3 : w3.heap.size ≤ b := h; show _ ∧ _; omega)
        rintro e w6 ⟨v6, rfl, hv6, hb6⟩
        have HI6 := Lib.hid (HI2.out.below hb6)
        have HV6 := Lib.hid hv6
        obtain ⟨o1, n1, s1, x1, l1, c1, rfl⟩ := hv6.agg
        obtain ⟨z0, z1, z2, z3, hz⟩ := HI6.out.res
        have HZ := Lib.hid hz
        obtain ⟨b0, b1, b2, b3, bf⟩ := hz.cells
        have f0 := bf 0
        have f1 := bf 1
        have f2 := bf 2
        have f3 := bf 3
        clear hz bf hv6 hb6
        go_wp2
        rw [HV.out, HT.out]
        simp only
        rw [HB.out.2]
        exact bodyPost_ret (node_res rfl _ _ w.heap.size _ _ _ _ rfl HZ.out.put.heap) rfl (RI.done HI6.out HV6.out)
end Go.Proofs.YtdomglkcfecnnaaGreat
/- Walks: inside, atom's parts. -/
namespace Go.Proofs.YtdomglkcfecnnaaGreat
open Go.RowKit Go.Shelf
attribute [local go_sem] run_store_float
/-- must, by its text. -/
def MustC (r : Nat) (s : Bs) (ok : Bool) (str : ByteArray) (l : Bs) : Prop := ∀ ts W, St r s ok ts W → Calls Tryz.prog 168 #[.pointer (some ⟨r, 0, none⟩), .string str] W (AdvEnd r s ok (must ok l ts) W)
set_option maxRecDepth 100000 in
set_option maxHeartbeats 4000000 in
theorem winside_step (V : Bs → Nat) (s : Bs) (ok : Bool) (hs : s.length ≤ 1000000) (n : Nat) (H : ∀ k, k ≤ n → PC V s ok 83 .or 11 k) (r : Nat) (ts : List Tok) (w : World) (hn : 12 * ts.length ≤ n + 1) (hst : St r s ok ts w) :
    Calls Tryz.prog 167 #[.pointer (some ⟨r, 0, none⟩)] w (PEnd r s ok (inside ok (P V ok n .or) ts) w) := by
  have HI := Lib.hid (RI.start (v0 := .string ⟨#[]⟩) (v1 := .float .f64 0) (v2 := .string ⟨#[]⟩) (v3 := .slice none 0 0) hst)
  have HN := Lib.hid hn
  have HH := Lib.hid H
  have HM1 : Hid (MustC r s ok ⟨#[40]⟩ [40]) := Lib.hid (fun ts W h => wmust r s ok ts [40] hs W h)
  have HM2 : Hid (MustC r s ok ⟨#[41]⟩ [41]) := Lib.hid (fun ts W h => wmust r s ok ts [41] hs W h)
  obtain ⟨res, hres⟩ : ∃ x, x = inside ok (P V ok n .or) ts := ⟨_, rfl⟩
  rw [← hres]
  have HR := Lib.hid hres
  unfold inside at HR
  clear hst hn hs H hres
  go_enter Tryz.func167, Tryz.ntmps167
  go_wp2_with (first | (go_at_call 168; fail))
  generalize w.alloc (.cells #[.string ⟨#[]⟩, .float .f64 0, .string ⟨#[]⟩, .slice none 0 0] 119) = W0 at HI ⊢
  refine (HM1.out ts W0 HI.out.st).mono ?_
  rintro e w3 ⟨hb3, ⟨h1, rfl⟩ | ⟨t1, h1, rfl, hst3⟩⟩
  · have HB := Lib.hid (And.intro hb3 h1)
    clear hb3 h1
    go_wp2
    exact ⟨rfl, HI.out.bt.trans HB.out.1, .inl ⟨by rw [HR.out, HB.out.2], rfl⟩⟩
  have HI3 := Lib.hid (HI.out.but hb3 hst3)
  have HT := Lib.hid h1
  have HLT := Lib.hid (must_len h1).1
  clear hb3 h1 hst3
  go_wp2_with (first | (go_at_call 83; fail))
  refine (HH.out n (Nat.le_refl _) r t1 _ (by have := HN.out; have := HLT.out; omega) HI3.out.st).mono ?_
  rintro e w2 ⟨hb2, ⟨h1, rfl⟩ | ⟨a, ts1, v, h1, rfl, hv, hst1⟩⟩
  · have HB := Lib.hid (And.intro hb2 h1)
    clear hb2 h1
    go_wp2
    exact ⟨rfl, HI3.out.bt.trans HB.out.1, .inl ⟨by rw [HR.out, HT.out]; simp only; rw [HB.out.2], rfl⟩⟩
  have HI2 := Lib.hid (HI3.out.but hb2 hst1)
  have HL0 := Lib.hid HI3.out.lt0
  have HV := Lib.hid h1
  have HND := Lib.hid (hv.sub (B := fun b => w.heap.size ≤ b ∧ b ≠ w.heap.size) (fun b h _ => by have h1 := HI3.out.bt.size; have h2 := HL0.out; have h3 : w3.heap.size ≤ b := h; show _ ∧ _; omega))
  obtain ⟨o1, n1, s1, x1, l1, c1, rfl⟩ := hv.agg
  clear hb2 h1 hv hst1
  go_wp2_with (first | (go_at_call 168; fail))
  have HI4 : Hid (RI w r s ok w.heap.size ts1 (w2.alloc (.cells #[.string o1, .float .f64 n1, .string s1, .slice x1 l1 c1] 119))) := Lib.hid (HI2.out.below ((Below.refl _ _).alloc (Nat.le_refl _) _))
  have HND4 := Lib.hid (HND.out.below ((Below.refl _ _).alloc (Nat.le_refl _) (.cells #[.string o1, .float .f64 n1, .string s1, .slice x1 l1 c1] 119)))
  have HG : Hid (NB (w2.alloc (.cells #[.string o1, .float .f64 n1, .string s1, .slice x1 l1 c1] 119)) w2.heap.size (.agg #[.string o1, .float .f64 n1, .string s1, .slice x1 l1 c1])) := Lib.hid ⟨_, _, _, _, rfl, heap_alloc_new _ _⟩
  have HLG := Lib.hid (show r < w2.heap.size from HI2.out.st.lt)
  generalize w2.alloc (.cells #[.string o1, .float .f64 n1, .string s1, .slice x1 l1 c1] 119) = W4 at HI4 HND4 HG ⊢
  refine (HM2.out ts1 W4 HI4.out.st).mono ?_
  rintro e w5 ⟨hb5, ⟨h1, rfl⟩ | ⟨t5, h1, rfl, hst5⟩⟩
  · have HB := Lib.hid (And.intro hb5 h1)
    clear hb5 h1
    go_wp2
    exact ⟨rfl, HI4.out.bt.trans HB.out.1, .inl ⟨by rw [HR.out, HT.out]; simp only; rw [HV.out]; simp only; rw [HB.out.2], rfl⟩⟩
  have HI5 := Lib.hid (HI4.out.but hb5 hst5)
  have HND5 := Lib.hid (HND4.out.but (by have := HI4.out.lt; intro h; omega) hb5)
  have HG5 := HG.out.but hb5 (by have := HLG.out; omega)
  have HT5 := Lib.hid h1
  obtain ⟨a0, a1, a2, a3, _⟩ := HG5.cells
  obtain ⟨z0, z1, z2, z3, hz⟩ := HI5.out.res
  have HZ := Lib.hid hz
  obtain ⟨b0, b1, b2, b3, bf⟩ := hz.cells
  have f0 := bf 0
  have f1 := bf 1
  have f2 := bf 2
  have f3 := bf 3
  clear hz bf hb5 h1 hst5 HG5
  go_wp2
  rw [HR.out, HT.out]
  simp only
  rw [HV.out]
  simp only
  rw [HT5.out]
  exact bodyPost_ret (node_res rfl _ _ w.heap.size _ _ _ _ rfl HZ.out.put.heap) rfl (RI.done HI5.out HND5.out)
end Go.Proofs.YtdomglkcfecnnaaGreat
