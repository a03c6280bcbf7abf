/- Walks: named with len, abs, has. -/
import Derived.Test.YtfalcmbjjlgoaaaGreatDoorQD
namespace Go.Proofs.YtfalcmbjjlgoaaaGreatDoor
open Go.RowKit Go.Shelf
attribute [local go_sem] run_store_float
set_option maxRecDepth 100000 in
set_option maxHeartbeats 4000000 in
theorem wnamed_one (V : Bs → Nat) (s : Bs) (ok : Bool) (hs : s.length ≤ 1000000) (n : Nat) (H : ∀ k, k ≤ n → PC V s ok 38 .or 11 k) (x : Bs) (hx : x = wlen ∨ x = wabs) (r : Nat) (ts : List Tok) (w : World) (hn : 12 * ts.length ≤ n + 1) (hne : ts ≠ []) (hst : St r s ok ts w) :
    Calls Tryz.prog 133 #[.pointer (some ⟨r, 0, none⟩), .string (tx x)] w (PEnd r s ok (namedP ok (P V ok n .or) ts x) w) := by
  have HI := Lib.hid (RI.start (v0 := .string ⟨#[]⟩) (v1 := .float .f64 0) (v2 := .string ⟨#[]⟩) (v3 := .slice none 0 0) hst)
  have HV : Hid (namedP ok (P V ok n .or) ts x = match adv ok ts with | none => none | some r => match inside ok (P V ok n .or) r with | none => none | some (a, r') => some (one x a, r')) := Lib.hid (by
    unfold namedP
    rw [if_neg (by rcases hx with rfl | rfl <;> decide)]
    cases adv ok ts with
    | none => rfl
    | some r => simp only; rw [if_pos hx]; rfl)
  obtain ⟨res, hres⟩ : ∃ y, y = namedP ok (P V ok n .or) ts x := ⟨_, rfl⟩
  rw [← hres] at HV ⊢
  have HA := Lib.hid (fun W h => wadv r s ok ts hs hne W h)
  have HIN := Lib.hid (fun t1 (W : World) h1 h => winside_step V s ok hs n H r t1 W h1 h)
  have HN := Lib.hid hn
  have HX := Lib.hid hx
  have b1 : ((tx x).toList == [111, 114]) = false := tx_ne (by rcases hx with rfl | rfl <;> decide)
  have b2 : ((tx x).toList == [97, 110, 100]) = false := tx_ne (by rcases hx with rfl | rfl <;> decide)
  have b3 : ((tx x).toList == [110, 111, 116]) = false := tx_ne (by rcases hx with rfl | rfl <;> decide)
  have hb : ((tx x).toList == [108, 101, 110]) = true ∨ (((tx x).toList == [108, 101, 110]) = false ∧ ((tx x).toList == [97, 98, 115]) = true) := by
    rcases hx with rfl | rfl
    · exact .inl (tx_same wlen)
    · exact .inr ⟨tx_ne (by decide), tx_same wabs⟩
  clear hst hres hx hne hs H hn
  go_enter Tryz.func133, Tryz.ntmps133
  have hq : ∀ K : Prop, ((((tx x).toList == [108, 101, 110]) = true → K) → (((tx x).toList == [108, 101, 110]) = false → ((tx x).toList == [97, 98, 115]) = true → K) → K) := fun K h1 h2 => hb.elim h1 (fun h => h2 h.1 h.2)
  clear hb
  refine hq _ (fun b4 => ?_) (fun b4 b5 => ?_)
  all_goals
    clear hq
    go_wp2_with (first | (go_at_call 37; fail))
    clear b1 b2 b3 b4
    try clear b5
    generalize w.alloc (.cells #[.string ⟨#[]⟩, .float .f64 0, .string ⟨#[]⟩, .slice none 0 0] 25) = W0 at HI ⊢
    refine (HA.out W0 HI.out.st).mono ?_
    rintro e w3 ⟨hb3, ⟨h1, rfl⟩ | ⟨t1, h1, rfl, hst3⟩⟩
    · have HB := Lib.hid (And.intro hb3 h1)
      clear hb3 h1
      go_wp2
      exact ⟨rfl, HI.out.bt.trans HB.out.1, .inl ⟨by rw [HV.out, HB.out.2], rfl⟩⟩
    have HI3 := Lib.hid (HI.out.but hb3 hst3)
    have HT := Lib.hid h1
    have HLT := Lib.hid (adv_len h1).1
    clear hb3 h1 hst3
    go_wp2_with (first | (go_at_call 134; fail))
    refine (HIN.out t1 _ (by have := HN.out; have := HLT.out; omega) HI3.out.st).mono ?_
    rintro e w2 ⟨hb2, ⟨h1, rfl⟩ | ⟨a, ts1, v, h1, rfl, hv, hst1⟩⟩
    · have HB := Lib.hid (And.intro hb2 h1)
      clear hb2 h1
      go_wp2
      exact ⟨rfl, HI3.out.bt.trans HB.out.1, .inl ⟨by rw [HV.out, HT.out]; simp only; rw [HB.out.2], rfl⟩⟩
    have HI2 := Lib.hid (HI3.out.but hb2 hst1)
    have HB := Lib.hid (And.intro hv h1)
    have HL0 := Lib.hid HI3.out.lt0
    clear hb2 h1 hv hst1
    go_wp2_with (first | (go_at_call 95; fail))
    refine (wsingle (fun b => w.heap.size ≤ b ∧ b ≠ w.heap.size) x v a _ ?_ ?_).mono ?_
    · intro b hb; have h1 := HI2.out.lt0; have h2 := HI2.out.bt.size; show _ ∧ _; omega
    · exact HB.out.1.sub (fun b h _ => by have h1 := HI3.out.bt.size; have h2 := HL0.out; have h3 : w3.heap.size ≤ b := h; show _ ∧ _; omega)
    rintro e w6 ⟨v6, rfl, hv6, hb6⟩
    have HI6 := Lib.hid (HI2.out.below hb6)
    have HV6 := Lib.hid hv6
    obtain ⟨o1, n1, s1, x1, l1, c1, rfl⟩ := hv6.agg
    obtain ⟨z0, z1, z2, z3, hz⟩ := HI6.out.res
    have HZ := Lib.hid hz
    obtain ⟨b0, b1, b2, b3, bf⟩ := hz.cells
    have f0 := bf 0
    have f1 := bf 1
    have f2 := bf 2
    have f3 := bf 3
    clear hz bf hv6 hb6
    go_wp2
    rw [HV.out, HT.out]
    simp only
    rw [HB.out.2]
    exact bodyPost_ret (node_res rfl _ _ w.heap.size _ _ _ _ rfl HZ.out.put.heap) rfl (RI.done HI6.out HV6.out)
set_option maxRecDepth 100000 in
set_option maxHeartbeats 4000000 in
theorem wnamed_has (V : Bs → Nat) (s : Bs) (ok : Bool) (hs : s.length ≤ 1000000) (n : Nat) (H : ∀ k, k ≤ n → PC V s ok 38 .or 11 k) (r : Nat) (ts : List Tok) (w : World) (hn : 12 * ts.length ≤ n + 1) (hne : ts ≠ []) (hst : St r s ok ts w) :
    Calls Tryz.prog 133 #[.pointer (some ⟨r, 0, none⟩), .string (tx whas)] w (PEnd r s ok (namedP ok (P V ok n .or) ts whas) w) := by
  have HI := Lib.hid (RI.start (v0 := .string ⟨#[]⟩) (v1 := .float .f64 0) (v2 := .string ⟨#[]⟩) (v3 := .slice none 0 0) hst)
  have HV : Hid (namedP ok (P V ok n .or) ts whas = match adv ok ts with | none => none | some r => hasP ok (P V ok n .or) r) := Lib.hid (by
    unfold namedP
    rw [if_neg (by decide)]
    cases adv ok ts with
    | none => rfl
    | some r => simp only; rw [if_neg (by decide), if_pos trivial])
  unfold hasP at HV
  obtain ⟨res, hres⟩ : ∃ y, y = namedP ok (P V ok n .or) ts whas := ⟨_, rfl⟩
  rw [← hres] at HV ⊢
  have HA := Lib.hid (fun W h => wadv r s ok ts hs hne W h)
  have HH := Lib.hid H
  have HM1 : Hid (MustC r s ok ⟨#[40]⟩ [40]) := Lib.hid (fun ts W h => wmust r s ok ts [40] hs W h)
  have HM2 : Hid (MustC r s ok ⟨#[44]⟩ [44]) := Lib.hid (fun ts W h => wmust r s ok ts [44] hs W h)
  have HM3 : Hid (MustC r s ok ⟨#[41]⟩ [41]) := Lib.hid (fun ts W h => wmust r s ok ts [41] hs W h)
  have HN := Lib.hid hn
  have b1 : ((tx whas).toList == [111, 114]) = false := tx_ne (by decide)
  have b2 : ((tx whas).toList == [97, 110, 100]) = false := tx_ne (by decide)
  have b3 : ((tx whas).toList == [110, 111, 116]) = false := tx_ne (by decide)
  have b4 : ((tx whas).toList == [108, 101, 110]) = false := tx_ne (by decide)
  have b5 : ((tx whas).toList == [97, 98, 115]) = false := tx_ne (by decide)
  have b6 := tx_same whas
  clear hst hres hne hs H hn
  obtain ⟨wh, hwh⟩ : ∃ y, y = whas := ⟨_, rfl⟩
  rw [← hwh] at HV b1 b2 b3 b4 b5 b6 ⊢
  have HWH := Lib.hid hwh
  have b7 : ((tx wh).toList == [104, 97, 115]) = true := by rw [← b6, hwh]; rfl
  clear hwh b6
  go_enter Tryz.func133, Tryz.ntmps133
  go_wp2_with (first | (go_at_call 37; fail))
  clear b1 b2 b3 b4 b5 b7
  generalize w.alloc (.cells #[.string ⟨#[]⟩, .float .f64 0, .string ⟨#[]⟩, .slice none 0 0] 25) = W0 at HI ⊢
  refine (HA.out W0 HI.out.st).mono ?_
  rintro e w3 ⟨hb3, ⟨h1, rfl⟩ | ⟨t1, h1, rfl, hst3⟩⟩
  · have HB := Lib.hid (And.intro hb3 h1)
    clear hb3 h1
    go_wp2
    exact ⟨rfl, HI.out.bt.trans HB.out.1, .inl ⟨by rw [HV.out, HB.out.2], rfl⟩⟩
  have HI3 := Lib.hid (HI.out.but hb3 hst3)
  have HV3 := Lib.hid HV.out
  rw [h1] at HV3
  have HLT := Lib.hid (adv_len h1).1
  clear hb3 h1 hst3 HV
  go_wp2_with (first | (go_at_call 141; fail))
  refine (HM1.out t1 _ HI3.out.st).mono ?_
  rintro e w4 ⟨hb3, ⟨h1, rfl⟩ | ⟨t2, h1, rfl, hst3⟩⟩
  · have HB := Lib.hid (And.intro hb3 h1)
    clear hb3 h1
    go_wp2
    exact ⟨rfl, HI3.out.bt.trans HB.out.1, .inl ⟨by rw [HV3.out, HB.out.2], rfl⟩⟩
  have HI4 := Lib.hid (HI3.out.but hb3 hst3)
  have HV4 := Lib.hid HV3.out
  simp only [h1] at HV4
  have HLT4 := Lib.hid (must_len h1).1
  clear hb3 h1 hst3 HV3
  go_wp2_with (first | (go_at_call 38; fail))
  refine (HH.out n (Nat.le_refl _) r t2 _ (by have := HN.out; have := HLT.out; have := HLT4.out; omega) HI4.out.st).mono ?_
  rintro e w5 ⟨hb2, ⟨h1, rfl⟩ | ⟨a, t3, v, h1, rfl, hv, hst1⟩⟩
  · have HB := Lib.hid (And.intro hb2 h1)
    clear hb2 h1
    go_wp2
    exact ⟨rfl, HI4.out.bt.trans HB.out.1, .inl ⟨by rw [HV4.out, HB.out.2], rfl⟩⟩
  have HI5 := Lib.hid (HI4.out.but hb2 hst1)
  have HL0 := Lib.hid HI4.out.lt0
  have HV5 := Lib.hid HV4.out
  simp only [h1] at HV5
  have HLT5 := Lib.hid (P_len V ok n .or t2 a t3 h1).1
  have HND := Lib.hid (hv.sub (B := fun b => w.heap.size ≤ b ∧ b ≠ w.heap.size ∧ b < w5.heap.size) (fun b h h0 => by have h1 := HI4.out.bt.size; have h2 := HL0.out; have h3 : w4.heap.size ≤ b := h; show _ ∧ _ ∧ _; omega))
  obtain ⟨o1, n1, s1, x1, l1, c1, rfl⟩ := hv.agg
  clear hb2 h1 hv hst1 HV4
  go_wp2_with (first | (go_at_call 141; fail))
  have HI6 : Hid (RI w r s ok w.heap.size t3 (w5.alloc (.cells #[.string o1, .float .f64 n1, .string s1, .slice x1 l1 c1] 25))) := Lib.hid (HI5.out.below ((Below.refl _ _).alloc (Nat.le_refl _) _))
  have HND6 := Lib.hid (HND.out.below ((Below.refl _ _).alloc (Nat.le_refl _) (.cells #[.string o1, .float .f64 n1, .string s1, .slice x1 l1 c1] 25)))
  have HG6 : Hid (NB (w5.alloc (.cells #[.string o1, .float .f64 n1, .string s1, .slice x1 l1 c1] 25)) w5.heap.size (.agg #[.string o1, .float .f64 n1, .string s1, .slice x1 l1 c1])) := Lib.hid ⟨_, _, _, _, rfl, heap_alloc_new _ _⟩
  have HLG := Lib.hid (show r < w5.heap.size from HI5.out.st.lt)
  have HL5 := Lib.hid HI5.out.lt0
  generalize w5.alloc (.cells #[.string o1, .float .f64 n1, .string s1, .slice x1 l1 c1] 25) = W6 at HI6 HND6 HG6 ⊢
  generalize w5.heap.size = g1 at HND6 HG6 HLG HL5 ⊢
  refine (HM2.out t3 W6 HI6.out.st).mono ?_
  rintro e w7 ⟨hb3, ⟨h1, rfl⟩ | ⟨t4, h1, rfl, hst3⟩⟩
  · have HB := Lib.hid (And.intro hb3 h1)
    clear hb3 h1
    go_wp2
    exact ⟨rfl, HI6.out.bt.trans HB.out.1, .inl ⟨by rw [HV5.out, HB.out.2], rfl⟩⟩
  have HI7 := Lib.hid (HI6.out.but hb3 hst3)
  have HND7 := Lib.hid (HND6.out.but (by have := HI6.out.lt; intro h; omega) hb3)
  have HG7 := Lib.hid (HG6.out.but hb3 (by have := HLG.out; omega))
  have HV7 := Lib.hid HV5.out
  simp only [h1] at HV7
  have HLT7 := Lib.hid (must_len h1).1
  clear hb3 h1 hst3 HV5
  go_wp2_with (first | (go_at_call 38; fail))
  refine (HH.out n (Nat.le_refl _) r t4 _ (by have := HN.out; have := HLT.out; have := HLT4.out; have := HLT5.out; have := HLT7.out; omega) HI7.out.st).mono ?_
  rintro e w8 ⟨hb2, ⟨h1, rfl⟩ | ⟨b, t5, v, h1, rfl, hv, hst1⟩⟩
  · have HB := Lib.hid (And.intro hb2 h1)
    clear hb2 h1
    go_wp2
    exact ⟨rfl, HI7.out.bt.trans HB.out.1, .inl ⟨by rw [HV7.out, HB.out.2], rfl⟩⟩
  have HI8 := Lib.hid (HI7.out.but hb2 hst1)
  have HL07 := Lib.hid HI7.out.lt0
  have HG7l := Lib.hid HG7.out.lt
  have HND8 := Lib.hid ((HND7.out.but (by have := HI6.out.lt; intro h; omega) hb2).sub (B := fun b => w.heap.size ≤ b ∧ b ≠ w.heap.size) (fun b h _ => ⟨h.1, h.2.1⟩))
  have HG8 := Lib.hid (HG7.out.but hb2 (by have := HLG.out; omega))
  have HV8 := Lib.hid HV7.out
  simp only [h1] at HV8
  have HNE8 := Lib.hid (hv.sub (B := fun b => w.heap.size ≤ b ∧ b ≠ w.heap.size) (fun b h h0 => by have h1 := HI7.out.bt.size; have h2 := HL07.out; have h3 : w7.heap.size ≤ b := h; show _ ∧ _; omega))
  obtain ⟨o2, n2, s2, x2, l2, c2, rfl⟩ := hv.agg
  clear hb2 h1 hv hst1 HV7
  go_wp2_with (first | (go_at_call 141; fail))
  have HI9 : Hid (RI w r s ok w.heap.size t5 (w8.alloc (.cells #[.string o2, .float .f64 n2, .string s2, .slice x2 l2 c2] 25))) := Lib.hid (HI8.out.below ((Below.refl _ _).alloc (Nat.le_refl _) _))
  have HND9 := Lib.hid (HND8.out.below ((Below.refl _ _).alloc (Nat.le_refl _) (.cells #[.string o2, .float .f64 n2, .string s2, .slice x2 l2 c2] 25)))
  have HNE9 := Lib.hid (HNE8.out.below ((Below.refl _ _).alloc (Nat.le_refl _) (.cells #[.string o2, .float .f64 n2, .string s2, .slice x2 l2 c2] 25)))
  have HG9 := Lib.hid (HG8.out.below ((Below.refl _ _).alloc (Nat.le_refl _) (.cells #[.string o2, .float .f64 n2, .string s2, .slice x2 l2 c2] 25)))
  have HGB9 : Hid (NB (w8.alloc (.cells #[.string o2, .float .f64 n2, .string s2, .slice x2 l2 c2] 25)) w8.heap.size (.agg #[.string o2, .float .f64 n2, .string s2, .slice x2 l2 c2])) := Lib.hid ⟨_, _, _, _, rfl, heap_alloc_new _ _⟩
  have HLG8 := Lib.hid (show r < w8.heap.size from HI8.out.st.lt)
  generalize w8.alloc (.cells #[.string o2, .float .f64 n2, .string s2, .slice x2 l2 c2] 25) = W9 at HI9 HND9 HNE9 HG9 HGB9 ⊢
  generalize w8.heap.size = g2 at HGB9 HLG8 ⊢
  refine (HM3.out t5 W9 HI9.out.st).mono ?_
  rintro e wA ⟨hb3, ⟨h1, rfl⟩ | ⟨t6, h1, rfl, hst3⟩⟩
  · have HB := Lib.hid (And.intro hb3 h1)
    clear hb3 h1
    go_wp2
    exact ⟨rfl, HI9.out.bt.trans HB.out.1, .inl ⟨by rw [HV8.out, HB.out.2], rfl⟩⟩
  have HIA := Lib.hid (HI9.out.but hb3 hst3)
  have HNDA := Lib.hid (HND9.out.but (by have := HI9.out.lt; intro h; omega) hb3)
  have HNEA := Lib.hid (HNE9.out.but (by have := HI9.out.lt; intro h; omega) hb3)
  have HGA := HG9.out.but hb3 (by have := HLG.out; omega)
  have HGBA := HGB9.out.but hb3 (by have := HLG8.out; omega)
  have HVA := Lib.hid HV8.out
  simp only [h1] at HVA
  obtain ⟨a0, a1, a2, a3, _⟩ := HGA.cells
  obtain ⟨d0, d1, d2, d3, _⟩ := HGBA.cells
  clear hb3 h1 hst3 HV8 HGA HGBA
  go_wp2_with (first | (go_at_call 58; fail))
  refine (wpair (fun b => w.heap.size ≤ b ∧ b ≠ w.heap.size) wh _ _ a b _ ?_ HNDA.out HNEA.out).mono ?_
  · intro b hb; have h1 := HIA.out.lt0; have h2 := HIA.out.bt.size; show _ ∧ _; omega
  rintro e wB ⟨vB, rfl, hvB, hbB⟩
  have HIB := Lib.hid (HIA.out.below hbB)
  have HVB := Lib.hid hvB
  obtain ⟨o3, n3, s3, x3, l3, c3, rfl⟩ := hvB.agg
  obtain ⟨z0, z1, z2, z3, hz⟩ := HIB.out.res
  have HZ := Lib.hid hz
  obtain ⟨b0, b1, b2, b3, bf⟩ := hz.cells
  have f0 := bf 0
  have f1 := bf 1
  have f2 := bf 2
  have f3 := bf 3
  clear hz bf hvB hbB a0 a1 a2 a3 d0 d1 d2 d3
  go_wp2
  rw [HVA.out]
  refine bodyPost_ret (node_res rfl _ _ w.heap.size _ _ _ _ rfl HZ.out.put.heap) rfl (RI.done HIB.out ?_)
  exact HVB.out
end Go.Proofs.YtfalcmbjjlgoaaaGreatDoor
