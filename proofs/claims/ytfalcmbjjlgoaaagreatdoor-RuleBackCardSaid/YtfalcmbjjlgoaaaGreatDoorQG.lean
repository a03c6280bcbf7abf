/- Walks: atom, not. -/
import Derived.Test.YtfalcmbjjlgoaaaGreatDoorQF
namespace Go.Proofs.YtfalcmbjjlgoaaaGreatDoor
open Go.RowKit Go.Shelf
attribute [local go_sem] run_store_float
theorem P_atom (V : Bs → Nat) (ok : Bool) (n : Nat) (t : Tok) (rest : List Tok) : P V ok (n + 1) .atom (t :: rest) =
    if t.k = 1 then (match adv ok (t :: rest) with | none => none | some r => some (.mk wnum (V t.s) [] [], r))
    else if t.k = 3 then (match adv ok (t :: rest) with | none => none | some r => some (.mk wtext 0 t.s [], r))
    else if t.k = 2 then namedP ok (P V ok n .or) (t :: rest) t.s
    else inside ok (P V ok n .or) (t :: rest) := by
  simp only [P, namedP]
  rfl
theorem wnamed (V : Bs → Nat) (s : Bs) (ok : Bool) (hs : s.length ≤ 1000000) (n : Nat) (H : ∀ k, k ≤ n → PC V s ok 38 .or 11 k) (x : Bs) (r : Nat) (ts : List Tok) (w : World) (hn : 12 * ts.length ≤ n + 1) (hne : ts ≠ []) (hst : St r s ok ts w) :
    Calls Tryz.prog 133 #[.pointer (some ⟨r, 0, none⟩), .string (tx x)] w (PEnd r s ok (namedP ok (P V ok n .or) ts x) w) := by
  by_cases h1 : x = wor ∨ x = wand ∨ x = wnot
  · exact wnamed_bad V s ok n x h1 r ts w hst
  · by_cases h2 : x = wlen ∨ x = wabs
    · exact wnamed_one V s ok hs n H x h2 r ts w hn hne hst
    · by_cases h3 : x = whas
      · subst h3; exact wnamed_has V s ok hs n H r ts w hn hne hst
      · exact wnamed_name V s ok hs n x ⟨fun h => h1 (.inl h), fun h => h1 (.inr (.inl h)), fun h => h1 (.inr (.inr h)), fun h => h2 (.inl h), fun h => h2 (.inr h), h3⟩ r ts w hne hst
/-- The part is what is handed on. -/
theorem handed {w W0 W2 : World} {r : Nat} {s : Bs} {ok : Bool} {ts : List Tok} {a : Tree} {v : Value} (HI : RI w r s ok w.heap.size ts W0) (hv : NodeV (fun b => W0.heap.size ≤ b) W2 v a) : NodeV (fun b => w.heap.size ≤ b ∧ b ≠ w.heap.size) W2 v a :=
  hv.sub (fun b h _ => by have h1 := HI.bt.size; have h2 := HI.lt0; have h3 : W0.heap.size ≤ b := h; show _ ∧ _; omega)
set_option maxRecDepth 100000 in
set_option maxHeartbeats 4000000 in
theorem watom_step (s : Bs) (ok : Bool) (hs : s.length ≤ 1000000) (n : Nat) (H : ∀ k, k ≤ n → PC valV s ok 38 .or 11 k) : PC valV s ok 123 .atom 1 (n + 1) := by
  intro r ts w hn hst
  have HI := Lib.hid (RI.start (v0 := .string ⟨#[]⟩) (v1 := .float .f64 0) (v2 := .string ⟨#[]⟩) (v3 := .slice none 0 0) hst)
  have HST := Lib.hid hst
  have HN := Lib.hid hn
  have HSL := Lib.hid hs
  have HIN := Lib.hid (fun t1 (W : World) h1 h => winside_step valV s ok hs n H r t1 W h1 h)
  have HNM := Lib.hid (fun x t1 (W : World) h1 h2 h => wnamed valV s ok hs n H x r t1 W h1 h2 h)
  obtain ⟨res, hres⟩ : ∃ x, x = P valV ok (n + 1) .atom ts := ⟨_, rfl⟩
  rw [← hres]
  have HR := Lib.hid hres
  clear hst hn hs H hres
  -- what the reader holds
  obtain ⟨k, g, hcells, hk⟩ : ∃ (k : Nat) (g : Bs), (∃ a, Rd (w.alloc (.cells #[.string ⟨#[]⟩, .float .f64 0, .string ⟨#[]⟩, .slice none 0 0] 25)) r s a k g) ∧ ((k = 0 ∧ ts = []) ∨ ∃ t rest, ts = t :: rest ∧ t.k = k ∧ t.s = g ∧ 1 ≤ k ∧ (k = 1 → NumT g)) := by
    obtain ⟨a, k, g, ha, hr, ⟨h1, h2, h3, _⟩ | ⟨t, rest, h1, h2, h3, h4, h5, h6⟩⟩ := HI.out.st
    · exact ⟨k, g, ⟨a, hr⟩, .inl ⟨h2, h1⟩⟩
    · exact ⟨k, g, ⟨a, hr⟩, .inr ⟨t, rest, h1, h2, h3, h4, fun h => h3 ▸ h6 (h2.trans h)⟩⟩
  obtain ⟨a, hrd⟩ := hcells
  obtain ⟨c0, c1, c2, c3, _, _⟩ := hrd.cells
  clear c0 c1 hrd
  have HK := Lib.hid hk
  clear hk
  by_cases k1 : k = 1
  · subst k1
    obtain ⟨t, rest, hts, htk, htg, _, hnt⟩ : ∃ t rest, ts = t :: rest ∧ t.k = 1 ∧ t.s = g ∧ 1 ≤ 1 ∧ NumT g := by
      rcases HK.out with ⟨h, _⟩ | ⟨t, rest, h1, h2, h3, h4, h5⟩
      · cases h
      · exact ⟨t, rest, h1, h2, h3, h4, h5 rfl⟩
    have HV : Hid (res = match adv ok ts with | none => none | some r => some (.mk wnum (valV g) [] [], r)) := Lib.hid (by rw [HR.out, hts, P_atom, if_pos htk, htg])
    have HA := Lib.hid (fun W h => wadv r s ok ts HSL.out (by rw [hts]; simp) W h)
    have HVAL := Lib.hid (fun W => wvalue g hnt W)
    clear hts htk htg hnt
    go_enter Tryz.func123, Tryz.ntmps123
    go_wp2_with (first | (go_at_call 37; fail))
    generalize w.alloc (.cells #[.string ⟨#[]⟩, .float .f64 0, .string ⟨#[]⟩, .slice none 0 0] 25) = W0 at HI ⊢
    refine (HA.out W0 HI.out.st).mono ?_
    rintro e w3 ⟨hb3, ⟨h1, rfl⟩ | ⟨t1, h1, rfl, hst3⟩⟩
    · have HB := Lib.hid (And.intro hb3 h1)
      clear hb3 h1
      go_wp2
      exact ⟨rfl, HI.out.bt.trans HB.out.1, .inl ⟨by rw [HV.out, HB.out.2], rfl⟩⟩
    have HI3 := Lib.hid (HI.out.but hb3 hst3)
    have HT := Lib.hid h1
    obtain ⟨z0, z1, z2, z3, hz⟩ := HI3.out.res
    have HZ := Lib.hid hz
    obtain ⟨b0, b1, b2, b3, bf⟩ := hz.cells
    have f0 := bf 0
    have f1 := bf 1
    have f2 := bf 2
    have f3 := bf 3
    clear hz bf hb3 h1 hst3
    go_wp2_with (first | (go_at_call 132; refine (HVAL.out _).mono ?_; rintro e w4 ⟨rfl, rfl⟩))
    go_wp2
    rw [HV.out, HT.out]
    exact bodyPost_ret (node_res rfl _ _ w.heap.size _ _ _ _ rfl HZ.out.put.heap) rfl (RI.done HI3.out (node_leaf _ _ wnum [] _))
  by_cases k3 : k = 3
  · subst k3
    obtain ⟨t, rest, hts, htk, htg, _, _⟩ : ∃ t rest, ts = t :: rest ∧ t.k = 3 ∧ t.s = g ∧ 1 ≤ 3 ∧ (3 = 1 → NumT g) := by
      rcases HK.out with ⟨h, _⟩ | h
      · cases h
      · exact h
    have HV : Hid (res = match adv ok ts with | none => none | some r => some (.mk wtext 0 g [], r)) := Lib.hid (by rw [HR.out, hts, P_atom, if_neg (by rw [htk]; decide), if_pos htk, htg])
    have HA := Lib.hid (fun W h => wadv r s ok ts HSL.out (by rw [hts]; simp) W h)
    clear hts htk htg k1
    go_enter Tryz.func123, Tryz.ntmps123
    go_wp2_with (first | (go_at_call 37; fail))
    generalize w.alloc (.cells #[.string ⟨#[]⟩, .float .f64 0, .string ⟨#[]⟩, .slice none 0 0] 25) = W0 at HI ⊢
    refine (HA.out W0 HI.out.st).mono ?_
    rintro e w3 ⟨hb3, ⟨h1, rfl⟩ | ⟨t1, h1, rfl, hst3⟩⟩
    · have HB := Lib.hid (And.intro hb3 h1)
      clear hb3 h1
      go_wp2
      exact ⟨rfl, HI.out.bt.trans HB.out.1, .inl ⟨by rw [HV.out, HB.out.2], rfl⟩⟩
    have HI3 := Lib.hid (HI.out.but hb3 hst3)
    have HT := Lib.hid h1
    obtain ⟨z0, z1, z2, z3, hz⟩ := HI3.out.res
    have HZ := Lib.hid hz
    obtain ⟨b0, b1, b2, b3, bf⟩ := hz.cells
    have f0 := bf 0
    have f1 := bf 1
    have f2 := bf 2
    have f3 := bf 3
    clear hz bf hb3 h1 hst3
    go_wp2
    rw [HV.out, HT.out]
    exact bodyPost_ret (node_res rfl _ _ w.heap.size _ _ _ _ rfl HZ.out.put.heap) rfl (RI.done HI3.out (node_leaf _ _ wtext g 0))
  by_cases k2 : k = 2
  · subst k2
    obtain ⟨t, rest, hts, htk, htg, _, _⟩ : ∃ t rest, ts = t :: rest ∧ t.k = 2 ∧ t.s = g ∧ 1 ≤ 2 ∧ (2 = 1 → NumT g) := by
      rcases HK.out with ⟨h, _⟩ | h
      · cases h
      · exact h
    have HV : Hid (res = namedP ok (P valV ok n .or) ts g) := Lib.hid (by rw [HR.out, hts, P_atom, if_neg (by rw [htk]; decide), if_neg (by rw [htk]; decide), if_pos htk, htg])
    have HC := Lib.hid (fun W h => HNM.out g ts W (by have := HN.out; omega) (by rw [hts]; simp) h)
    clear hts htk htg k1 k3
    go_enter Tryz.func123, Tryz.ntmps123
    go_wp2_with (first | (go_at_call 133; fail))
    generalize w.alloc (.cells #[.string ⟨#[]⟩, .float .f64 0, .string ⟨#[]⟩, .slice none 0 0] 25) = W0 at HI ⊢
    refine (HC.out W0 HI.out.st).mono ?_
    rintro e w2 ⟨hb2, ⟨h1, rfl⟩ | ⟨a, ts1, v, h1, rfl, hv, hst1⟩⟩
    · have HB := Lib.hid (And.intro hb2 h1)
      clear hb2 h1
      go_wp2
      exact ⟨rfl, HI.out.bt.trans HB.out.1, .inl ⟨HV.out.trans HB.out.2, rfl⟩⟩
    have HI2 := Lib.hid (HI.out.but hb2 hst1)
    have HB := Lib.hid (And.intro (handed HI.out hv) h1)
    obtain ⟨o1, n1, s1, x1, l1, c1, rfl⟩ := hv.agg
    obtain ⟨z0, z1, z2, z3, hz⟩ := HI2.out.res
    have HZ := Lib.hid hz
    obtain ⟨b0, b1, b2, b3, bf⟩ := hz.cells
    have f0 := bf 0
    have f1 := bf 1
    have f2 := bf 2
    have f3 := bf 3
    clear hb2 h1 hv hst1 hz bf
    go_wp2
    rw [HV.out, HB.out.2]
    exact bodyPost_ret (node_res rfl _ _ w.heap.size _ _ _ _ rfl HZ.out.put.heap) rfl (RI.done HI2.out HB.out.1)
  have HV : Hid (res = inside ok (P valV ok n .or) ts) := Lib.hid (by
    rw [HR.out]
    rcases HK.out with ⟨_, h⟩ | ⟨t, rest, h1, h2, _⟩
    · rw [h]; simp only [P]; rfl
    · rw [h1, P_atom, if_neg (by rw [h2]; exact k1), if_neg (by rw [h2]; exact k3), if_neg (by rw [h2]; exact k2)])
  have HC := Lib.hid (fun W h => HIN.out ts W (by have := HN.out; omega) h)
  have y1 : ((k : Int) == 1) = false := by simp; omega
  have y2 : ((k : Int) == 3) = false := by simp; omega
  have y3 : ((k : Int) == 2) = false := by simp; omega
  clear k1 k2 k3
  go_enter Tryz.func123, Tryz.ntmps123
  go_wp2_with (first | (go_at_call 134; fail))
  generalize w.alloc (.cells #[.string ⟨#[]⟩, .float .f64 0, .string ⟨#[]⟩, .slice none 0 0] 25) = W0 at HI ⊢
  refine (HC.out W0 HI.out.st).mono ?_
  rintro e w2 ⟨hb2, ⟨h1, rfl⟩ | ⟨a, ts1, v, h1, rfl, hv, hst1⟩⟩
  · have HB := Lib.hid (And.intro hb2 h1)
    clear hb2 h1
    go_wp2
    exact ⟨rfl, HI.out.bt.trans HB.out.1, .inl ⟨HV.out.trans HB.out.2, rfl⟩⟩
  have HI2 := Lib.hid (HI.out.but hb2 hst1)
  have HB := Lib.hid (And.intro (handed HI.out hv) h1)
  obtain ⟨o1, n1, s1, x1, l1, c1, rfl⟩ := hv.agg
  obtain ⟨z0, z1, z2, z3, hz⟩ := HI2.out.res
  have HZ := Lib.hid hz
  obtain ⟨b0, b1, b2, b3, bf⟩ := hz.cells
  have f0 := bf 0
  have f1 := bf 1
  have f2 := bf 2
  have f3 := bf 3
  clear hb2 h1 hv hst1 hz bf
  go_wp2
  rw [HV.out, HB.out.2]
  exact bodyPost_ret (node_res rfl _ _ w.heap.size _ _ _ _ rfl HZ.out.put.heap) rfl (RI.done HI2.out HB.out.1)
end Go.Proofs.YtfalcmbjjlgoaaaGreatDoor
