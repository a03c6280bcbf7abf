/- Walk: not. -/
import Derived.Test.YtfalcmbjjlgoaaaGreatDoorQG
namespace Go.Proofs.YtfalcmbjjlgoaaaGreatDoor
open Go.RowKit Go.Shelf
attribute [local go_sem] run_store_float
set_option maxRecDepth 100000 in
set_option maxHeartbeats 8000000 in
theorem wnot_step (V : Bs → Nat) (s : Bs) (ok : Bool) (hs : s.length ≤ 1000000) (n : Nat) (H : ∀ k, k ≤ n → PC V s ok 78 .not 7 k) (HA : ∀ k, k ≤ n → PC V s ok 96 .sum 6 k) : PC V s ok 78 .not 7 (n + 1) := by
  intro r ts w hn hst
  have HI := Lib.hid (RI.start (v0 := .string ⟨#[]⟩) (v1 := .float .f64 0) (v2 := .string ⟨#[]⟩) (v3 := .slice none 0 0) hst)
  have HN := Lib.hid hn
  have HSL := Lib.hid hs
  have HH := Lib.hid H
  have HHA := Lib.hid HA
  obtain ⟨res, hres⟩ : ∃ x, x = P V ok (n + 1) .not ts := ⟨_, rfl⟩
  rw [← hres]
  have HR := Lib.hid hres
  have HIS : Hid (Calls Tryz.prog 57 #[.pointer (some ⟨r, 0, none⟩), .int .i64 2, .string ⟨#[110, 111, 116]⟩] (w.alloc (.cells #[.string ⟨#[]⟩, .float .f64 0, .string ⟨#[]⟩, .slice none 0 0] 25)) fun e w' => e = .returned (.bool (isTok ts 2 wnot)) ∧ (w.alloc (.cells #[.string ⟨#[]⟩, .float .f64 0, .string ⟨#[]⟩, .slice none 0 0] 25)) = w') := Lib.hid (wisT r s ok ts 2 (by omega) wnot _ HI.out.st)
  clear hst hn hs H HA hres
  go_enter Tryz.func78, Tryz.ntmps78
  cases hq : isTok ts 2 wnot
  · rw [hq] at HIS
    have HV : Hid (res = match P V ok n .sum ts with
      | none => none
      | some (a, r) => match r with
        | [] => some (a, r)
        | t :: _ => if t.k = 4 ∧ isCmp t.s = true then
            match adv ok r with
            | none => none
            | some t1 => match P V ok n .sum t1 with
              | none => none
              | some (b, r') => some (two t.s a b, r')
          else some (a, r)) := Lib.hid (by rw [HR.out]; simp only [P]; rw [hq]; rfl)
    clear hq HR
    go_wp2_with (first | (go_at_call 57; refine (HIS.out).mono ?_; rintro e w5 ⟨rfl, rfl⟩))
    clear HIS
    generalize w.alloc (.cells #[.string ⟨#[]⟩, .float .f64 0, .string ⟨#[]⟩, .slice none 0 0] 25) = W0 at HI ⊢
    go_at_call 96
    refine (HHA.out n (Nat.le_refl _) r ts _ (by have := HN.out; omega) HI.out.st).mono ?_
    rintro e w2 ⟨hb2, ⟨h1, rfl⟩ | ⟨a, ts1, v, h1, rfl, hv, hst1⟩⟩
    · have HB := Lib.hid (And.intro hb2 h1)
      clear hb2 h1
      go_wp2
      exact ⟨rfl, HI.out.bt.trans HB.out.1, .inl ⟨by rw [HV.out, HB.out.2], rfl⟩⟩
    have HI2 := Lib.hid (HI.out.but hb2 hst1)
    have HND := Lib.hid ((handed HI.out hv).sub (B := fun b => w.heap.size ≤ b ∧ b ≠ w.heap.size ∧ b < w2.heap.size) (fun b h h0 => ⟨h.1, h.2, h0⟩))
    have HLT2 := Lib.hid (P_len V ok n .sum ts a ts1 h1).1
    have HV2 := Lib.hid HV.out
    simp only [h1] at HV2
    obtain ⟨o1, n1, s1, x1, l1, c1, rfl⟩ := hv.agg
    clear hb2 h1 hv hst1 HV
    have HI4 : Hid (RI w r s ok w.heap.size ts1 (w2.alloc (.cells #[.string o1, .float .f64 n1, .string s1, .slice x1 l1 c1] 25))) := Lib.hid (HI2.out.below ((Below.refl _ _).alloc (Nat.le_refl _) _))
    have HND4 := Lib.hid (HND.out.below ((Below.refl _ _).alloc (Nat.le_refl _) (.cells #[.string o1, .float .f64 n1, .string s1, .slice x1 l1 c1] 25)))
    have HG4 : Hid (NB (w2.alloc (.cells #[.string o1, .float .f64 n1, .string s1, .slice x1 l1 c1] 25)) w2.heap.size (.agg #[.string o1, .float .f64 n1, .string s1, .slice x1 l1 c1])) := Lib.hid ⟨_, _, _, _, rfl, heap_alloc_new _ _⟩
    have HLG := Lib.hid (And.intro (show r < w2.heap.size from HI2.out.st.lt) (show w.heap.size < w2.heap.size from HI2.out.lt0))
    -- what the reader holds
    obtain ⟨k, g, ⟨ra, hrd⟩, hk⟩ : ∃ (k : Nat) (g : Bs), (∃ a, Rd (w2.alloc (.cells #[.string o1, .float .f64 n1, .string s1, .slice x1 l1 c1] 25)) r s a k g) ∧ ((k = 0 ∧ ts1 = []) ∨ ∃ t rest, ts1 = t :: rest ∧ t.k = k ∧ t.s = g) := by
      obtain ⟨a, k, g, ha, hr, ⟨h1, h2, h3, _⟩ | ⟨t, rest, h1, h2, h3, h4, h5, h6⟩⟩ := HI4.out.st
      · exact ⟨k, g, ⟨a, hr⟩, .inl ⟨h2, h1⟩⟩
      · exact ⟨k, g, ⟨a, hr⟩, .inr ⟨t, rest, h1, h2, h3⟩⟩
    obtain ⟨_, _, rc2, rc3, _, _⟩ := hrd.cells
    have HK := Lib.hid hk
    clear hk hrd
    by_cases hc : k = 4 ∧ isCmp g = true
    · obtain ⟨rfl, hcm⟩ := hc
      obtain ⟨t, rest, hts, htk, htg⟩ : ∃ t rest, ts1 = t :: rest ∧ t.k = 4 ∧ t.s = g := by
        rcases HK.out with ⟨h, _⟩ | h
        · cases h
        · exact h
      have HV3 : Hid (res = match adv ok ts1 with
            | none => none
            | some t1 => match P V ok n .sum t1 with
              | none => none
              | some (b, r') => some (two g a b, r')) := Lib.hid (by
        rw [HV2.out, hts]
        simp only
        rw [if_pos ⟨htk, by rw [htg]; exact hcm⟩, htg])
      have HA := Lib.hid (fun W h => wadv r s ok ts1 HSL.out (by rw [hts]; simp) W h)
      have hg6 : g = [61] ∨ g = [33, 61] ∨ g = [60] ∨ g = [60, 61] ∨ g = [62] ∨ g = [62, 61] := by simpa [isCmp] using hcm
      have hT : (((tx g).toList == [61]) = true) ∨ (((tx g).toList == [61]) = false ∧ ((tx g).toList == [33, 61]) = true) ∨ (((tx g).toList == [61]) = false ∧ ((tx g).toList == [33, 61]) = false ∧ ((tx g).toList == [60]) = true) ∨ (((tx g).toList == [61]) = false ∧ ((tx g).toList == [33, 61]) = false ∧ ((tx g).toList == [60]) = false ∧ ((tx g).toList == [60, 61]) = true) ∨ (((tx g).toList == [61]) = false ∧ ((tx g).toList == [33, 61]) = false ∧ ((tx g).toList == [60]) = false ∧ ((tx g).toList == [60, 61]) = false ∧ ((tx g).toList == [62]) = true) ∨ (((tx g).toList == [61]) = false ∧ ((tx g).toList == [33, 61]) = false ∧ ((tx g).toList == [60]) = false ∧ ((tx g).toList == [60, 61]) = false ∧ ((tx g).toList == [62]) = false ∧ ((tx g).toList == [62, 61]) = true) := by
        rcases hg6 with rfl | rfl | rfl | rfl | rfl | rfl
        · exact .inl (tx_same _)
        · exact .inr (.inl (⟨tx_ne (by decide), tx_same _⟩))
        · exact .inr (.inr (.inl (⟨tx_ne (by decide), tx_ne (by decide), tx_same _⟩)))
        · exact .inr (.inr (.inr (.inl (⟨tx_ne (by decide), tx_ne (by decide), tx_ne (by decide), tx_same _⟩))))
        · exact .inr (.inr (.inr (.inr (.inl (⟨tx_ne (by decide), tx_ne (by decide), tx_ne (by decide), tx_ne (by decide), tx_same _⟩)))))
        · exact .inr (.inr (.inr (.inr (.inr (⟨tx_ne (by decide), tx_ne (by decide), tx_ne (by decide), tx_ne (by decide), tx_ne (by decide), tx_same _⟩)))))
      clear hts htk htg hcm hg6
      rcases hT with h1 | ⟨h1, h2⟩ | ⟨h1, h2, h3⟩ | ⟨h1, h2, h3, h4⟩ | ⟨h1, h2, h3, h4, h5⟩ | ⟨h1, h2, h3, h4, h5, h6⟩
      all_goals
        go_wp2_with (first | (go_at_call 37; fail))
        generalize w2.alloc (.cells #[.string o1, .float .f64 n1, .string s1, .slice x1 l1 c1] 25) = W4 at HI4 HND4 HG4 ⊢
        generalize w2.heap.size = gg at HND4 HG4 HLG ⊢
        refine (HA.out W4 HI4.out.st).mono ?_
        rintro e w5 ⟨hb3, ⟨h1, rfl⟩ | ⟨t1, h1, rfl, hst3⟩⟩
        · have HB := Lib.hid (And.intro hb3 h1)
          clear hb3 h1
          go_wp2
          exact ⟨rfl, HI4.out.bt.trans HB.out.1, .inl ⟨by rw [HV3.out, HB.out.2], rfl⟩⟩
        have HI5 := Lib.hid (HI4.out.but hb3 hst3)
        have HT5 := Lib.hid h1
        have HLT := Lib.hid (adv_len h1).1
        have HND5 := Lib.hid (HND4.out.but (by have := HI4.out.lt; intro h; omega) hb3)
        have HG5 := Lib.hid (HG4.out.but hb3 (by have := HLG.out; omega))
        obtain ⟨a0, a1, a2, a3, bf⟩ := HG5.out.cells
        clear bf hb3 h1 hst3
        go_wp2_with fail
        refine wp_region_any (by kernel_rfl) ?_
        change wpAny _ _ _ _ _ _ _ (World.drew _)
        refine wpAny_take (i := 0) (v := _) rfl (by kernel_rfl) (by kernel_rfl) (by kernel_rfl) (fun _ _ _ h => h) (Or.inl ⟨by rfl, by intro w; go_simp; try (with_reducible rfl)⟩) ?_
        refine wpAny_take (i := 2) (v := _) rfl (by kernel_rfl) (by kernel_rfl) (by kernel_rfl) (fun _ _ _ h => h) (Or.inl ⟨by rfl, by intro w; go_simp; try (with_reducible rfl)⟩) ?_
        refine wpAny_ready (rs := [1, 3]) (by kernel_rfl) (by simp) ?_
        refine AllReady.cons rfl (fun K hK => ?_) (AllReady.cons rfl (fun K hK => ?_) AllReady.nil)
        · go_simp
          refine hK _ _ ?_
          clear hK K
          refine wpAny_ready (rs := [3]) (by kernel_rfl) (by simp) ?_
          refine AllReady.cons rfl (fun K hK => ?_) AllReady.nil
          go_simp
          go_wp2_with (first | (go_at_call 96; fail))
          refine (HHA.out n (Nat.le_refl _) r t1 _ (by have := HN.out; have := HLT.out; have := HLT2.out; omega) HI5.out.st.drew).mono ?_
          rintro e w6 ⟨hb6, ⟨h1, rfl⟩ | ⟨b, ts2, vb, h1, rfl, hvb, hst6⟩⟩
          · exact ⟨rfl, HI5.out.bt.drew.trans hb6, .inl ⟨by rw [HV3.out, HT5.out]; simp only; rw [h1], rfl⟩⟩
          have HB6 : Hid (But [r] w5 w6) := Lib.hid ((But.refl _ _).drew.trans hb6)
          have HI6 := Lib.hid (HI5.out.but HB6.out hst6)
          have HVE := Lib.hid h1
          have HNE6 := Lib.hid (hvb.sub (B := fun b => w.heap.size ≤ b ∧ b ≠ w.heap.size) (fun b h h0 => by have h1 := HI5.out.bt.size; have h2 := HI5.out.lt0; have h3 : w5.heap.size ≤ b := h; show _ ∧ _; omega))
          have HND6 := Lib.hid ((HND5.out.but (by have := HI4.out.lt; intro h; omega) HB6.out).sub (B := fun b => w.heap.size ≤ b ∧ b ≠ w.heap.size) (fun b h _ => ⟨h.1, h.2.1⟩))
          obtain ⟨o2, n2, s2, x2, l2, c2, rfl⟩ := hvb.agg
          clear a0 a1 a2 a3 hb6 h1 hvb hst6
          have HG6 := Lib.hid (HG5.out.but HB6.out (by have := HLG.out; omega))
          obtain ⟨a0, a1, a2, a3, bf⟩ := HG6.out.cells
          clear bf
          refine hK _ _ ?_
          clear hK K
          refine wpAny_ready (rs := [4]) (by kernel_rfl) (by simp) ?_
          refine AllReady.cons rfl (fun K hK => ?_) AllReady.nil
          go_simp
          go_wp2_with (first | (go_at_call 58; fail))
          refine (wpair (fun b => w.heap.size ≤ b ∧ b ≠ w.heap.size) g _ _ a b _ ?_ HND6.out HNE6.out).mono ?_
          · intro b hb; have h1 := HI6.out.lt0; have h2 := HI6.out.bt.size; show _ ∧ _; omega
          rintro e w7 ⟨v7, rfl, hv7, hb7⟩
          have HI7 := Lib.hid (HI6.out.below hb7)
          have HV7 := Lib.hid hv7
          obtain ⟨o6, n6, s6, x6, l6, c6, rfl⟩ := hv7.agg
          clear a0 a1 a2 a3 hv7 hb7
          obtain ⟨z0, z1, z2, z3, hz⟩ := HI7.out.res
          have HZ := Lib.hid hz
          obtain ⟨b0, b1, b2, b3, bf⟩ := hz.cells
          have f0 := bf 0
          have f1 := bf 1
          have f2 := bf 2
          have f3 := bf 3
          clear hz bf
          refine hK _ _ ?_
          clear hK K
          refine wpAny_ready (rs := [5]) (by kernel_rfl) (by simp) ?_
          refine AllReady.cons rfl (fun K hK => ?_) AllReady.nil
          go_simp
          refine hK _ _ ?_
          clear hK K
          refine wpAny_done (by kernel_rfl) ?_ _
          go_wp2
          rw [HV3.out, HT5.out]
          simp only
          rw [HVE.out]
          exact bodyPost_ret (node_res rfl _ _ w.heap.size _ _ _ _ rfl HZ.out.put.heap) rfl (RI.done HI7.out HV7.out)
        · go_simp
          go_wp2_with (first | (go_at_call 96; fail))
          refine (HHA.out n (Nat.le_refl _) r t1 _ (by have := HN.out; have := HLT.out; have := HLT2.out; omega) HI5.out.st.drew).mono ?_
          rintro e w6 ⟨hb6, ⟨h1, rfl⟩ | ⟨b, ts2, vb, h1, rfl, hvb, hst6⟩⟩
          · exact ⟨rfl, HI5.out.bt.drew.trans hb6, .inl ⟨by rw [HV3.out, HT5.out]; simp only; rw [h1], rfl⟩⟩
          have HB6 : Hid (But [r] w5 w6) := Lib.hid ((But.refl _ _).drew.trans hb6)
          have HI6 := Lib.hid (HI5.out.but HB6.out hst6)
          have HVE := Lib.hid h1
          have HNE6 := Lib.hid (hvb.sub (B := fun b => w.heap.size ≤ b ∧ b ≠ w.heap.size) (fun b h h0 => by have h1 := HI5.out.bt.size; have h2 := HI5.out.lt0; have h3 : w5.heap.size ≤ b := h; show _ ∧ _; omega))
          have HND6 := Lib.hid ((HND5.out.but (by have := HI4.out.lt; intro h; omega) HB6.out).sub (B := fun b => w.heap.size ≤ b ∧ b ≠ w.heap.size) (fun b h _ => ⟨h.1, h.2.1⟩))
          obtain ⟨o2, n2, s2, x2, l2, c2, rfl⟩ := hvb.agg
          clear a0 a1 a2 a3 hb6 h1 hvb hst6
          have HG6 := Lib.hid (HG5.out.but HB6.out (by have := HLG.out; omega))
          obtain ⟨a0, a1, a2, a3, bf⟩ := HG6.out.cells
          clear bf
          refine hK _ _ ?_
          clear hK K
          refine wpAny_ready (rs := [1]) (by kernel_rfl) (by simp) ?_
          refine AllReady.cons rfl (fun K hK => ?_) AllReady.nil
          go_simp
          refine hK _ _ ?_
          clear hK K
          refine wpAny_ready (rs := [4]) (by kernel_rfl) (by simp) ?_
          refine AllReady.cons rfl (fun K hK => ?_) AllReady.nil
          go_simp
          go_wp2_with (first | (go_at_call 58; fail))
          refine (wpair (fun b => w.heap.size ≤ b ∧ b ≠ w.heap.size) g _ _ a b _ ?_ HND6.out HNE6.out).mono ?_
          · intro b hb; have h1 := HI6.out.lt0; have h2 := HI6.out.bt.size; show _ ∧ _; omega
          rintro e w7 ⟨v7, rfl, hv7, hb7⟩
          have HI7 := Lib.hid (HI6.out.below hb7)
          have HV7 := Lib.hid hv7
          obtain ⟨o6, n6, s6, x6, l6, c6, rfl⟩ := hv7.agg
          clear a0 a1 a2 a3 hv7 hb7
          obtain ⟨z0, z1, z2, z3, hz⟩ := HI7.out.res
          have HZ := Lib.hid hz
          obtain ⟨b0, b1, b2, b3, bf⟩ := hz.cells
          have f0 := bf 0
          have f1 := bf 1
          have f2 := bf 2
          have f3 := bf 3
          clear hz bf
          refine hK _ _ ?_
          clear hK K
          refine wpAny_ready (rs := [5]) (by kernel_rfl) (by simp) ?_
          refine AllReady.cons rfl (fun K hK => ?_) AllReady.nil
          go_simp
          refine hK _ _ ?_
          clear hK K
          refine wpAny_done (by kernel_rfl) ?_ _
          go_wp2
          rw [HV3.out, HT5.out]
          simp only
          rw [HVE.out]
          exact bodyPost_ret (node_res rfl _ _ w.heap.size _ _ _ _ rfl HZ.out.put.heap) rfl (RI.done HI7.out HV7.out)
    · have HV3 : Hid (res = some (a, ts1)) := Lib.hid (by
        rw [HV2.out]
        rcases HK.out with ⟨_, h⟩ | ⟨t, rest, h1, h2, h3⟩
        · rw [h]
        · rw [h1]
          simp only
          rw [if_neg (by rw [h2, h3]; exact hc)])
      obtain ⟨z0, z1, z2, z3, hz⟩ := HI4.out.res
      have HZ := Lib.hid hz
      obtain ⟨b0, b1, b2, b3, bf⟩ := hz.cells
      obtain ⟨a0, a1, a2, a3, _⟩ := HG4.out.cells
      have f0 := bf 0
      have f1 := bf 1
      have f2 := bf 2
      have f3 := bf 3
      clear hz bf
      by_cases k4 : k = 4
      · subst k4
        have hg : g ≠ [61] ∧ g ≠ [33, 61] ∧ g ≠ [60] ∧ g ≠ [60, 61] ∧ g ≠ [62] ∧ g ≠ [62, 61] := by
          have : isCmp g = false := by
            cases h : isCmp g
            · rfl
            · exact absurd ⟨rfl, h⟩ hc
          simpa [isCmp, not_or] using this
        have t1 : ((tx g).toList == [61]) = false := tx_ne hg.1
        have t2 : ((tx g).toList == [33, 61]) = false := tx_ne hg.2.1
        have t3 : ((tx g).toList == [60]) = false := tx_ne hg.2.2.1
        have t4 : ((tx g).toList == [60, 61]) = false := tx_ne hg.2.2.2.1
        have t5 : ((tx g).toList == [62]) = false := tx_ne hg.2.2.2.2.1
        have t6 : ((tx g).toList == [62, 61]) = false := tx_ne hg.2.2.2.2.2
        clear hg hc
        go_wp2
        rw [HV3.out]
        exact bodyPost_ret (node_res rfl _ _ w.heap.size _ _ _ _ rfl HZ.out.put.heap) rfl (RI.done HI4.out (HND4.out.sub (fun b h _ => ⟨h.1, h.2.1⟩)))
      · have y : ((k : Int) != 4) = true := by simp; omega
        clear k4 hc
        go_wp2
        rw [HV3.out]
        exact bodyPost_ret (node_res rfl _ _ w.heap.size _ _ _ _ rfl HZ.out.put.heap) rfl (RI.done HI4.out (HND4.out.sub (fun b h _ => ⟨h.1, h.2.1⟩)))
  · have HNE : Hid (ts ≠ []) := Lib.hid (fun e => by rw [e] at hq; cases hq)
    rw [hq] at HIS
    have HV : Hid (res = match adv ok ts with
      | none => none
      | some t1 => match P V ok n .not t1 with
        | none => none
        | some (b, r) => some (one wnot b, r)) := Lib.hid (by rw [HR.out]; simp only [P]; rw [if_pos hq]; rfl)
    clear hq HR
    go_wp2_with (first | (go_at_call 57; refine (HIS.out).mono ?_; rintro e w5 ⟨rfl, rfl⟩))
    clear HIS
    generalize w.alloc (.cells #[.string ⟨#[]⟩, .float .f64 0, .string ⟨#[]⟩, .slice none 0 0] 25) = W0 at HI ⊢
    go_at_call 37
    refine (wadv r s ok ts HSL.out HNE.out _ HI.out.st).mono ?_
    rintro e w3 ⟨hb3, ⟨h1, rfl⟩ | ⟨t1, h1, rfl, hst3⟩⟩
    · have HB := Lib.hid (And.intro hb3 h1)
      clear hb3 h1
      go_wp2
      exact ⟨rfl, HI.out.bt.trans HB.out.1, .inl ⟨by rw [HV.out, HB.out.2], rfl⟩⟩
    · have HI3 := Lib.hid (HI.out.but hb3 hst3)
      have HT := Lib.hid h1
      have HLT := Lib.hid (adv_len h1).1
      clear hb3 h1 hst3
      go_wp2_with (first | (go_at_call 78; fail))
      go_at_call 78
      refine (HH.out n (Nat.le_refl _) r t1 _ (by have := HN.out; have := HLT.out; omega) HI3.out.st).mono ?_
      rintro e w2 ⟨hb2, ⟨h1, rfl⟩ | ⟨a, ts1, v, h1, rfl, hv, hst1⟩⟩
      · have HB := Lib.hid (And.intro hb2 h1)
        clear hb2 h1
        go_wp2
        exact ⟨rfl, HI3.out.bt.trans HB.out.1, .inl ⟨by rw [HV.out, HT.out]; simp only; rw [HB.out.2], rfl⟩⟩
      · have HI2 := Lib.hid (HI3.out.but hb2 hst1)
        have HB := Lib.hid (And.intro hv h1)
        have HL0 := Lib.hid HI3.out.lt0
        clear hb2 h1 hv hst1
        go_wp2_with (first | (go_at_call 95; fail))
        refine (wsingle (fun b => w.heap.size ≤ b ∧ b ≠ w.heap.size) wnot v a _ ?_ ?_).mono ?_
        · intro b hb; have h1 := HI2.out.lt0; have h2 := HI2.out.bt.size; show _ ∧ _; omega
        · exact HB.out.1.sub (fun b h _ => by have h1 := HI3.out.bt.size; have h2 := HL0.out; have h3 : w3.heap.size ≤ b := h; show _ ∧ _; omega)
        rintro e w6 ⟨v6, rfl, hv6, hb6⟩
        have HI6 := Lib.hid (HI2.out.below hb6)
        have HV6 := Lib.hid hv6
        obtain ⟨o1, n1, s1, x1, l1, c1, rfl⟩ := hv6.agg
        obtain ⟨z0, z1, z2, z3, hz⟩ := HI6.out.res
        have HZ := Lib.hid hz
        obtain ⟨b0, b1, b2, b3, bf⟩ := hz.cells
        have f0 := bf 0
        have f1 := bf 1
        have f2 := bf 2
        have f3 := bf 3
        clear hz bf hv6 hb6
        go_wp2
        rw [HV.out, HT.out]
        simp only
        rw [HB.out.2]
        exact bodyPost_ret (node_res rfl _ _ w.heap.size _ _ _ _ rfl HZ.out.put.heap) rfl (RI.done HI6.out HV6.out)
end Go.Proofs.YtfalcmbjjlgoaaaGreatDoor
