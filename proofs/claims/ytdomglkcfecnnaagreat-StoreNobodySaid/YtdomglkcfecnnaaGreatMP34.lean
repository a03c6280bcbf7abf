/- Own texts, merged: QF, QG, QH, QI. -/
import Derived.WalkMore
import Derived.Test.YtdomglkcfecnnaaGreatFin
import Derived.Test.YtdomglkcfecnnaaGreatMP33
/- A number's value: plain laws and the walk. -/
namespace Go.Proofs.YtdomglkcfecnnaaGreat
open Go.RowKit Go.Shelf
open Ieee (double)
/-- Ten to the k, as a float. -/
def pw (k : Nat) : Nat := [4607182418800017408, 4621819117588971520, 4636737291354636288, 4652007308841189376, 4666723172467343360, 4681608360884174848, 4696837146684686336].getD k 0
theorem pw_mul (k : Nat) (h : k < 6) : double.mul (pw k) 4621819117588971520 = some (pw (k + 1)) := by
  match k, h with
  | 0, _ => decide +kernel
  | 1, _ => decide +kernel
  | 2, _ => decide +kernel
  | 3, _ => decide +kernel
  | 4, _ => decide +kernel
  | 5, _ => decide +kernel
theorem pw_ofI (k : Nat) (h : k ≤ 6) : ofI ((10 ^ k : Nat) : Int) = pw k := by
  match k, h with
  | 0, _ => decide +kernel
  | 1, _ => decide +kernel
  | 2, _ => decide +kernel
  | 3, _ => decide +kernel
  | 4, _ => decide +kernel
  | 5, _ => decide +kernel
  | 6, _ => decide +kernel
theorem pw_read (k : Nat) (h : k ≤ 6) : ∃ m j, double.read (pw k) = .number false m j ∧ m ≠ 0 := by
  match k, h with
  | 0, _ => exact ⟨2 ^ 52, -52, by decide +kernel, by decide⟩
  | 1, _ => exact ⟨5629499534213120, -49, by decide +kernel, by decide⟩
  | 2, _ => exact ⟨7036874417766400, -46, by decide +kernel, by decide⟩
  | 3, _ => exact ⟨8796093022208000, -43, by decide +kernel, by decide⟩
  | 4, _ => exact ⟨5497558138880000, -39, by decide +kernel, by decide⟩
  | 5, _ => exact ⟨6871947673600000, -36, by decide +kernel, by decide⟩
  | 6, _ => exact ⟨8589934592000000, -33, by decide +kernel, by decide⟩
/-- A number's value. -/
def valV (l : Bs) : Nat := (double.div (ofI (valF l).1) (pw (valF l).2.1)).getD 0
theorem div_fin (x : Nat) (hx : finB x = true) (k : Nat) (hk : k ≤ 6) : ∃ p, double.div x (pw k) = some p ∧ isNan p = false ∧ p < 2 ^ 64 := by
  obtain ⟨m, i, r, _, _⟩ := read_fin x (by simpa [finB] using hx)
  obtain ⟨n, j, q, hn⟩ := pw_read k hk
  unfold Ieee.Format.div
  rw [r, q]
  simp only [Ieee.Datum.quotient, hn, if_false, Option.map_some]
  exact ⟨_, rfl, nan_nearest _ _ _, lt_nearest _ _ _⟩
theorem valF_snoc (l : Bs) (c : UInt8) : valF (l ++ [c]) = valStep (valF l) c := by simp [valF]
theorem valF_bound (l : Bs) : ∀ (x : Nat × Nat × Bool) (B : Nat), x.1 < B → (∀ c ∈ l, c = 46 ∨ isDig c = true) → (l.foldl valStep x).1 < B * 10 ^ (l.filter (fun c => c != 46)).length := by
  induction l with
  | nil => intro x B h _; simpa using h
  | cons c t ih =>
    intro x B h hc
    rw [List.foldl_cons]
    have ht : ∀ c ∈ t, c = 46 ∨ isDig c = true := fun c h => hc c (by simp [h])
    by_cases h46 : c = 46
    · have e : valStep x c = (x.1, x.2.1, true) := by unfold valStep; rw [if_pos h46]
      rw [e, List.filter_cons_of_neg (by simp [h46])]
      exact ih _ B h ht
    · have hd : c.toNat - 48 ≤ 9 := by
        rcases hc c (by simp) with h1 | h1
        · exact absurd h1 h46
        · rw [digit_dec] at h1; simp at h1; omega
      have e : (valStep x c).1 = 10 * x.1 + (c.toNat - 48) := by unfold valStep; rw [if_neg h46]
      rw [List.filter_cons_of_pos (by simp [h46]), List.length_cons, Nat.pow_succ, Nat.mul_comm (10 ^ _) 10, ← Nat.mul_assoc]
      exact ih _ (B * 10) (by rw [e]; omega) ht
theorem valF_mono (l : Bs) : ∀ x : Nat × Nat × Bool, x.2.1 ≤ (l.foldl valStep x).2.1 := by
  induction l with
  | nil => intro x; exact Nat.le_refl _
  | cons c t ih =>
    intro x
    rw [List.foldl_cons]
    refine Nat.le_trans ?_ (ih _)
    unfold valStep
    split
    · exact Nat.le_refl _
    · simp only; split <;> omega
theorem numT_take {l : Bs} (h : NumT l) (j : Nat) : (valF (l.take j)).1 < 10 ^ 15 ∧ (valF (l.take j)).2.1 ≤ 6 := by
  obtain ⟨h1, h2, h3, _⟩ := h
  constructor
  · have hb := valF_bound (l.take j) (0, 0, false) 1 (by decide) (fun c hc => h1 c (List.mem_of_mem_take hc))
    rw [Nat.one_mul] at hb
    have hl : ((l.take j).filter (fun c => c != 46)).length ≤ 15 := Nat.le_trans (List.Sublist.length_le (List.Sublist.filter _ (List.take_sublist j l))) h3
    exact Nat.lt_of_lt_of_le hb (Nat.pow_le_pow_right (by decide) hl)
  · have : (valF (l.take j)).2.1 ≤ (valF l).2.1 := by
      have e : valF l = (l.drop j).foldl valStep (valF (l.take j)) := by
        unfold valF
        rw [← List.foldl_append, List.take_append_drop]
      rw [e]
      exact valF_mono _ _
    omega
theorem take_snoc' (l : Bs) (j : Nat) (h : j < l.length) : l.take (j + 1) = l.take j ++ [l.getD j 0] := by
  rw [List.take_succ_eq_append_getElem h, List.getD_eq_getElem?_getD, List.getElem?_eq_getElem h]
  rfl
theorem valV_some {l : Bs} (h : NumT l) : double.div (ofI (valF l).1) (pw (valF l).2.1) = some (valV l) ∧ isNan (valV l) = false ∧ valV l < 2 ^ 64 := by
  have hb := numT_take h l.length
  rw [List.take_length] at hb
  obtain ⟨p, h1, h2, h3⟩ := div_fin (ofI (valF l).1) (ofI_fin _ (Nat.lt_of_lt_of_le hb.1 (by decide))) _ hb.2
  unfold valV
  rw [h1]
  exact ⟨rfl, h2, h3⟩
set_option maxRecDepth 100000 in
set_option maxHeartbeats 4000000 in
theorem wvalue (l : Bs) (h : NumT l) (w : World) : Calls Tryz.prog 165 #[.string (tx l)] w fun e w' => e = .returned (.float .f64 (valV l)) ∧ w = w' := by
  have HS := Lib.hid (tx_size' l)
  have HN := Lib.hid h
  have HL := Lib.hid h.2.2.2
  have HT := Lib.hid (fun i (hi : i < l.length) => tx_at l i hi)
  clear h
  go_enter Tryz.func165, Tryz.ntmps165
  go_wp2_with fail
  go_loop [3, 4, 5, 6] (fun n b p i => ∃ j : Nat, j ≤ l.length ∧ i = .int .i64 j ∧ Hid (n = .int .i64 ((valF (l.take j)).1 : Nat) ∧ b = .float .f64 (pw (valF (l.take j)).2.1) ∧ p = .bool (valF (l.take j)).2.2)) (fun _ _ _ i => l.length - (intOf i).toNat)
  case atStart => exact ⟨0, Nat.zero_le _, rfl, Lib.hid ⟨rfl, rfl, rfl⟩⟩
  case round =>
    obtain ⟨j, hj, rfl, hh⟩ := hrel
    obtain ⟨rfl, rfl, rfl⟩ := hh.out
    have hb := numT_take HN.out j
    obtain ⟨N, hN⟩ : ∃ N, N = (valF (l.take j)).1 := ⟨_, rfl⟩
    obtain ⟨K, hK⟩ : ∃ K, K = (valF (l.take j)).2.1 := ⟨_, rfl⟩
    obtain ⟨B, hB⟩ : ∃ B, B = (valF (l.take j)).2.2 := ⟨_, rfl⟩
    rw [← hN, ← hK] at hb
    rw [← hN, ← hK, ← hB]
    have HV := Lib.hid (show valF (l.take j) = (N, K, B) by rw [hN, hK, hB])
    have jl : j ≤ 1000000 := by have := HL.out; omega
    have n1 : N < 1000000000000000 := by have := hb.1; omega
    have HK := Lib.hid hb.2
    clear hh hb hN hK hB
    by_cases q1 : j < (tx l).size
    · have q1' : j < l.length := by have := HS.out; omega
      have HX := Lib.hid (HT.out j q1')
      have HTS := Lib.hid (take_snoc' l j q1')
      have HC := Lib.hid (HN.out.1 (l.getD j 0) (by rw [List.getD_eq_getElem?_getD, List.getElem?_eq_getElem q1']; exact List.getElem_mem _))
      by_cases q2 : l.getD j 0 = 46
      · have z : (((tx l)[j]'q1).toNat : Int) = 46 := toNat_of (HX.out.trans q2)
        have HV2 : Hid (valF (l.take (j + 1)) = (N, K, true)) := Lib.hid (by rw [HTS.out, valF_snoc, HV.out]; unfold valStep; rw [if_pos q2])
        clear q2
        go_wp2
        go_round
        case rel => exact ⟨j + 1, by omega, by go_num, Lib.hid (by rw [HV2.out]; exact ⟨rfl, rfl, rfl⟩)⟩
        case measure => simp [intOf]; omega
      · have z : ¬ (((tx l)[j]'q1).toNat : Int) = 46 := ne_nat (c := (tx l)[j]'q1) (v := 46) (by rw [HX.out]; exact q2)
        have hd : isDig (l.getD j 0) = true := by rcases HC.out with h | h; exact absurd h q2; exact h
        have hd2 : 48 ≤ (((tx l)[j]'q1).toNat : Int) ∧ (((tx l)[j]'q1).toNat : Int) ≤ 57 := by rw [HX.out]; rw [digit_dec] at hd; simpa using hd
        obtain ⟨y1, y2⟩ := hd2
        have HV2 : Hid (valF (l.take (j + 1)) = (10 * N + (((tx l)[j]'q1).toNat - 48), if B = true then K + 1 else K, B)) := Lib.hid (by rw [HTS.out, valF_snoc, HV.out, HX.out]; unfold valStep; rw [if_neg q2])
        have HB2 := Lib.hid ((numT_take HN.out (j + 1)).2)
        rw [HV2.out] at HB2
        clear q2 hd
        cases B
        · go_wp2
          go_round
          case rel => exact ⟨j + 1, by omega, by go_num, Lib.hid (by rw [HV2.out]; exact ⟨by go_num, rfl, rfl⟩)⟩
          case measure => simp [intOf]; omega
        · have hm : ∀ W, (binOp BinOp.mul 60 (.float .f64 (pw K)) (.float .f64 4621819117588971520)).run Tryz.prog W = .ok (.float .f64 (pw (K + 1))) W := fun W => run_float_arith W .mul 60 .f64 _ _ _ (pw_mul K (by have := HB2.out; simp at this; omega))
          go_wp2
          go_round
          case rel => exact ⟨j + 1, by omega, by go_num, Lib.hid (by rw [HV2.out]; exact ⟨by go_num, rfl, rfl⟩)⟩
          case measure => simp [intOf]; omega
    · have e : j = l.length := by have := HS.out; omega
      have hV : ∀ W, (binOp BinOp.quo 60 (.float .f64 (floatOfInt .f64 (N : Int))) (.float .f64 (pw K))).run Tryz.prog W = .ok (.float .f64 (valV l)) W := fun W => run_float_arith W .quo 60 .f64 _ _ _ (by
        have h1 := (valV_some HN.out).1
        have h2 := HV.out
        rw [e, List.take_length] at h2
        rw [h2] at h1
        exact h1)
      clear e
      go_wp2
      go_ret
      exact ⟨rfl, rfl⟩
end Go.Proofs.YtdomglkcfecnnaaGreat
/- Walks: atom, not. -/
namespace Go.Proofs.YtdomglkcfecnnaaGreat
open Go.RowKit Go.Shelf
attribute [local go_sem] run_store_float
theorem P_atom (V : Bs → Nat) (ok : Bool) (n : Nat) (t : Tok) (rest : List Tok) : P V ok (n + 1) .atom (t :: rest) =
    if t.k = 1 then (match adv ok (t :: rest) with | none => none | some r => some (.mk wnum (V t.s) [] [], r))
    else if t.k = 3 then (match adv ok (t :: rest) with | none => none | some r => some (.mk wtext 0 t.s [], r))
    else if t.k = 2 then namedP ok (P V ok n .or) (t :: rest) t.s
    else inside ok (P V ok n .or) (t :: rest) := by
  simp only [P, namedP]
  rfl
theorem wnamed (V : Bs → Nat) (s : Bs) (ok : Bool) (hs : s.length ≤ 1000000) (n : Nat) (H : ∀ k, k ≤ n → PC V s ok 83 .or 11 k) (x : Bs) (r : Nat) (ts : List Tok) (w : World) (hn : 12 * ts.length ≤ n + 1) (hne : ts ≠ []) (hst : St r s ok ts w) :
    Calls Tryz.prog 166 #[.pointer (some ⟨r, 0, none⟩), .string (tx x)] w (PEnd r s ok (namedP ok (P V ok n .or) ts x) w) := by
  by_cases h1 : x = wor ∨ x = wand ∨ x = wnot
  · exact wnamed_bad V s ok n x h1 r ts w hst
  · by_cases h2 : x = wlen ∨ x = wabs
    · exact wnamed_one V s ok hs n H x h2 r ts w hn hne hst
    · by_cases h3 : x = whas
      · subst h3; exact wnamed_has V s ok hs n H r ts w hn hne hst
      · exact wnamed_name V s ok hs n x ⟨fun h => h1 (.inl h), fun h => h1 (.inr (.inl h)), fun h => h1 (.inr (.inr h)), fun h => h2 (.inl h), fun h => h2 (.inr h), h3⟩ r ts w hne hst
/-- The part is what is handed on. -/
theorem handed {w W0 W2 : World} {r : Nat} {s : Bs} {ok : Bool} {ts : List Tok} {a : Tree} {v : Value} (HI : RI w r s ok w.heap.size ts W0) (hv : NodeV (fun b => W0.heap.size ≤ b) W2 v a) : NodeV (fun b => w.heap.size ≤ b ∧ b ≠ w.heap.size) W2 v a :=
  hv.sub (fun b h _ => by have h1 := HI.bt.size; have h2 := HI.lt0; have h3 : W0.heap.size ≤ b := h; show _ ∧ _; omega)
set_option maxRecDepth 100000 in
set_option maxHeartbeats 4000000 in
theorem watom_step (s : Bs) (ok : Bool) (hs : s.length ≤ 1000000) (n : Nat) (H : ∀ k, k ≤ n → PC valV s ok 83 .or 11 k) : PC valV s ok 164 .atom 1 (n + 1) := by
  intro r ts w hn hst
  have HI := Lib.hid (RI.start (v0 := .string ⟨#[]⟩) (v1 := .float .f64 0) (v2 := .string ⟨#[]⟩) (v3 := .slice none 0 0) hst)
  have HST := Lib.hid hst
  have HN := Lib.hid hn
  have HSL := Lib.hid hs
  have HIN := Lib.hid (fun t1 (W : World) h1 h => winside_step valV s ok hs n H r t1 W h1 h)
  have HNM := Lib.hid (fun x t1 (W : World) h1 h2 h => wnamed valV s ok hs n H x r t1 W h1 h2 h)
  obtain ⟨res, hres⟩ : ∃ x, x = P valV ok (n + 1) .atom ts := ⟨_, rfl⟩
  rw [← hres]
  have HR := Lib.hid hres
  clear hst hn hs H hres
  -- what the reader holds
  obtain ⟨k, g, hcells, hk⟩ : ∃ (k : Nat) (g : Bs), (∃ a, Rd (w.alloc (.cells #[.string ⟨#[]⟩, .float .f64 0, .string ⟨#[]⟩, .slice none 0 0] 119)) r s a k g) ∧ ((k = 0 ∧ ts = []) ∨ ∃ t rest, ts = t :: rest ∧ t.k = k ∧ t.s = g ∧ 1 ≤ k ∧ (k = 1 → NumT g)) := by
    obtain ⟨a, k, g, ha, hr, ⟨h1, h2, h3, _⟩ | ⟨t, rest, h1, h2, h3, h4, h5, h6⟩⟩ := HI.out.st
    · exact ⟨k, g, ⟨a, hr⟩, .inl ⟨h2, h1⟩⟩
    · exact ⟨k, g, ⟨a, hr⟩, .inr ⟨t, rest, h1, h2, h3, h4, fun h => h3 ▸ h6 (h2.trans h)⟩⟩
  obtain ⟨a, hrd⟩ := hcells
  obtain ⟨c0, c1, c2, c3, _, _⟩ := hrd.cells
  clear c0 c1 hrd
  have HK := Lib.hid hk
  clear hk
  by_cases k1 : k = 1
  · subst k1
    obtain ⟨t, rest, hts, htk, htg, _, hnt⟩ : ∃ t rest, ts = t :: rest ∧ t.k = 1 ∧ t.s = g ∧ 1 ≤ 1 ∧ NumT g := by
      rcases HK.out with ⟨h, _⟩ | ⟨t, rest, h1, h2, h3, h4, h5⟩
      · cases h
      · exact ⟨t, rest, h1, h2, h3, h4, h5 rfl⟩
    have HV : Hid (res = match adv ok ts with | none => none | some r => some (.mk wnum (valV g) [] [], r)) := Lib.hid (by rw [HR.out, hts, P_atom, if_pos htk, htg])
    have HA := Lib.hid (fun W h => wadv r s ok ts HSL.out (by rw [hts]; simp) W h)
    have HVAL := Lib.hid (fun W => wvalue g hnt W)
    clear hts htk htg hnt
    go_enter Tryz.func164, Tryz.ntmps164
    go_wp2_with (first | (go_at_call 82; fail))
    generalize w.alloc (.cells #[.string ⟨#[]⟩, .float .f64 0, .string ⟨#[]⟩, .slice none 0 0] 119) = W0 at HI ⊢
    refine (HA.out W0 HI.out.st).mono ?_
    rintro e w3 ⟨hb3, ⟨h1, rfl⟩ | ⟨t1, h1, rfl, hst3⟩⟩
    · have HB := Lib.hid (And.intro hb3 h1)
      clear hb3 h1
      go_wp2
      exact ⟨rfl, HI.out.bt.trans HB.out.1, .inl ⟨by rw [HV.out, HB.out.2], rfl⟩⟩
    have HI3 := Lib.hid (HI.out.but hb3 hst3)
    have HT := Lib.hid h1
    obtain ⟨z0, z1, z2, z3, hz⟩ := HI3.out.res
    have HZ := Lib.hid hz
    obtain ⟨b0, b1, b2, b3, bf⟩ := hz.cells
    have f0 := bf 0
    have f1 := bf 1
    have f2 := bf 2
    have f3 := bf 3
    clear hz bf hb3 h1 hst3
    go_wp2_with (first | (go_at_call 165; refine (HVAL.out _).mono ?_; rintro e w4 ⟨rfl, rfl⟩))
    go_wp2
    rw [HV.out, HT.out]
    exact bodyPost_ret (node_res rfl _ _ w.heap.size _ _ _ _ rfl HZ.out.put.heap) rfl (RI.done HI3.out (node_leaf _ _ wnum [] _))
  by_cases k3 : k = 3
  · subst k3
    obtain ⟨t, rest, hts, htk, htg, _, _⟩ : ∃ t rest, ts = t :: rest ∧ t.k = 3 ∧ t.s = g ∧ 1 ≤ 3 ∧ (3 = 1 → NumT g) := by
      rcases HK.out with ⟨h, _⟩ | h
      · cases h
      · exact h
    have HV : Hid (res = match adv ok ts with | none => none | some r => some (.mk wtext 0 g [], r)) := Lib.hid (by rw [HR.out, hts, P_atom, if_neg (by rw [htk]; decide), if_pos htk, htg])
    have HA := Lib.hid (fun W h => wadv r s ok ts HSL.out (by rw [hts]; simp) W h)
    clear hts htk htg k1
    go_enter Tryz.func164, Tryz.ntmps164
    go_wp2_with (first | (go_at_call 82; fail))
    generalize w.alloc (.cells #[.string ⟨#[]⟩, .float .f64 0, .string ⟨#[]⟩, .slice none 0 0] 119) = W0 at HI ⊢
    refine (HA.out W0 HI.out.st).mono ?_
    rintro e w3 ⟨hb3, ⟨h1, rfl⟩ | ⟨t1, h1, rfl, hst3⟩⟩
    · have HB := Lib.hid (And.intro hb3 h1)
      clear hb3 h1
      go_wp2
      exact ⟨rfl, HI.out.bt.trans HB.out.1, .inl ⟨by rw [HV.out, HB.out.2], rfl⟩⟩
    have HI3 := Lib.hid (HI.out.but hb3 hst3)
    have HT := Lib.hid h1
    obtain ⟨z0, z1, z2, z3, hz⟩ := HI3.out.res
    have HZ := Lib.hid hz
    obtain ⟨b0, b1, b2, b3, bf⟩ := hz.cells
    have f0 := bf 0
    have f1 := bf 1
    have f2 := bf 2
    have f3 := bf 3
    clear hz bf hb3 h1 hst3
    go_wp2
    rw [HV.out, HT.out]
    exact bodyPost_ret (node_res rfl _ _ w.heap.size _ _ _ _ rfl HZ.out.put.heap) rfl (RI.done HI3.out (node_leaf _ _ wtext g 0))
  by_cases k2 : k = 2
  · subst k2
    obtain ⟨t, rest, hts, htk, htg, _, _⟩ : ∃ t rest, ts = t :: rest ∧ t.k = 2 ∧ t.s = g ∧ 1 ≤ 2 ∧ (2 = 1 → NumT g) := by
      rcases HK.out with ⟨h, _⟩ | h
      · cases h
      · exact h
    have HV : Hid (res = namedP ok (P valV ok n .or) ts g) := Lib.hid (by rw [HR.out, hts, P_atom, if_neg (by rw [htk]; decide), if_neg (by rw [htk]; decide), if_pos htk, htg])
    have HC := Lib.hid (fun W h => HNM.out g ts W (by have := HN.out; omega) (by rw [hts]; simp) h)
    clear hts htk htg k1 k3
    go_enter Tryz.func164, Tryz.ntmps164
    go_wp2_with (first | (go_at_call 166; fail))
    generalize w.alloc (.cells #[.string ⟨#[]⟩, .float .f64 0, .string ⟨#[]⟩, .slice none 0 0] 119) = W0 at HI ⊢
    refine (HC.out W0 HI.out.st).mono ?_
    rintro e w2 ⟨hb2, ⟨h1, rfl⟩ | ⟨a, ts1, v, h1, rfl, hv, hst1⟩⟩
    · have HB := Lib.hid (And.intro hb2 h1)
      clear hb2 h1
      go_wp2
      exact ⟨rfl, HI.out.bt.trans HB.out.1, .inl ⟨HV.out.trans HB.out.2, rfl⟩⟩
    have HI2 := Lib.hid (HI.out.but hb2 hst1)
    have HB := Lib.hid (And.intro (handed HI.out hv) h1)
    obtain ⟨o1, n1, s1, x1, l1, c1, rfl⟩ := hv.agg
    obtain ⟨z0, z1, z2, z3, hz⟩ := HI2.out.res
    have HZ := Lib.hid hz
    obtain ⟨b0, b1, b2, b3, bf⟩ := hz.cells
    have f0 := bf 0
    have f1 := bf 1
    have f2 := bf 2
    have f3 := bf 3
    clear hb2 h1 hv hst1 hz bf
    go_wp2
    rw [HV.out, HB.out.2]
    exact bodyPost_ret (node_res rfl _ _ w.heap.size _ _ _ _ rfl HZ.out.put.heap) rfl (RI.done HI2.out HB.out.1)
  have HV : Hid (res = inside ok (P valV ok n .or) ts) := Lib.hid (by
    rw [HR.out]
    rcases HK.out with ⟨_, h⟩ | ⟨t, rest, h1, h2, _⟩
    · rw [h]; simp only [P]; rfl
    · rw [h1, P_atom, if_neg (by rw [h2]; exact k1), if_neg (by rw [h2]; exact k3), if_neg (by rw [h2]; exact k2)])
  have HC := Lib.hid (fun W h => HIN.out ts W (by have := HN.out; omega) h)
  have y1 : ((k : Int) == 1) = false := by simp; omega
  have y2 : ((k : Int) == 3) = false := by simp; omega
  have y3 : ((k : Int) == 2) = false := by simp; omega
  clear k1 k2 k3
  go_enter Tryz.func164, Tryz.ntmps164
  go_wp2_with (first | (go_at_call 167; fail))
  generalize w.alloc (.cells #[.string ⟨#[]⟩, .float .f64 0, .string ⟨#[]⟩, .slice none 0 0] 119) = W0 at HI ⊢
  refine (HC.out W0 HI.out.st).mono ?_
  rintro e w2 ⟨hb2, ⟨h1, rfl⟩ | ⟨a, ts1, v, h1, rfl, hv, hst1⟩⟩
  · have HB := Lib.hid (And.intro hb2 h1)
    clear hb2 h1
    go_wp2
    exact ⟨rfl, HI.out.bt.trans HB.out.1, .inl ⟨HV.out.trans HB.out.2, rfl⟩⟩
  have HI2 := Lib.hid (HI.out.but hb2 hst1)
  have HB := Lib.hid (And.intro (handed HI.out hv) h1)
  obtain ⟨o1, n1, s1, x1, l1, c1, rfl⟩ := hv.agg
  obtain ⟨z0, z1, z2, z3, hz⟩ := HI2.out.res
  have HZ := Lib.hid hz
  obtain ⟨b0, b1, b2, b3, bf⟩ := hz.cells
  have f0 := bf 0
  have f1 := bf 1
  have f2 := bf 2
  have f3 := bf 3
  clear hb2 h1 hv hst1 hz bf
  go_wp2
  rw [HV.out, HB.out.2]
  exact bodyPost_ret (node_res rfl _ _ w.heap.size _ _ _ _ rfl HZ.out.put.heap) rfl (RI.done HI2.out HB.out.1)
end Go.Proofs.YtdomglkcfecnnaaGreat
/- Walk: not. -/
namespace Go.Proofs.YtdomglkcfecnnaaGreat
open Go.RowKit Go.Shelf
attribute [local go_sem] run_store_float
set_option maxRecDepth 100000 in
set_option maxHeartbeats 8000000 in
theorem wnot_step (V : Bs → Nat) (s : Bs) (ok : Bool) (hs : s.length ≤ 1000000) (n : Nat) (H : ∀ k, k ≤ n → PC V s ok 131 .not 7 k) (HA : ∀ k, k ≤ n → PC V s ok 147 .sum 6 k) : PC V s ok 131 .not 7 (n + 1) := by
  intro r ts w hn hst
  have HI := Lib.hid (RI.start (v0 := .string ⟨#[]⟩) (v1 := .float .f64 0) (v2 := .string ⟨#[]⟩) (v3 := .slice none 0 0) hst)
  have HN := Lib.hid hn
  have HSL := Lib.hid hs
  have HH := Lib.hid H
  have HHA := Lib.hid HA
  obtain ⟨res, hres⟩ : ∃ x, x = P V ok (n + 1) .not ts := ⟨_, rfl⟩
  rw [← hres]
  have HR := Lib.hid hres
  have HIS : Hid (Calls Tryz.prog 105 #[.pointer (some ⟨r, 0, none⟩), .int .i64 2, .string ⟨#[110, 111, 116]⟩] (w.alloc (.cells #[.string ⟨#[]⟩, .float .f64 0, .string ⟨#[]⟩, .slice none 0 0] 119)) fun e w' => e = .returned (.bool (isTok ts 2 wnot)) ∧ (w.alloc (.cells #[.string ⟨#[]⟩, .float .f64 0, .string ⟨#[]⟩, .slice none 0 0] 119)) = w') := Lib.hid (wisT r s ok ts 2 (by omega) wnot _ HI.out.st)
  clear hst hn hs H HA hres
  go_enter Tryz.func131, Tryz.ntmps131
  cases hq : isTok ts 2 wnot
  · rw [hq] at HIS
    have HV : Hid (res = match P V ok n .sum ts with
      | none => none
      | some (a, r) => match r with
        | [] => some (a, r)
        | t :: _ => if t.k = 4 ∧ isCmp t.s = true then
            match adv ok r with
            | none => none
            | some t1 => match P V ok n .sum t1 with
              | none => none
              | some (b, r') => some (two t.s a b, r')
          else some (a, r)) := Lib.hid (by rw [HR.out]; simp only [P]; rw [hq]; rfl)
    clear hq HR
    go_wp2_with (first | (go_at_call 105; refine (HIS.out).mono ?_; rintro e w5 ⟨rfl, rfl⟩))
    clear HIS
    generalize w.alloc (.cells #[.string ⟨#[]⟩, .float .f64 0, .string ⟨#[]⟩, .slice none 0 0] 119) = W0 at HI ⊢
    go_at_call 147
    refine (HHA.out n (Nat.le_refl _) r ts _ (by have := HN.out; omega) HI.out.st).mono ?_
    rintro e w2 ⟨hb2, ⟨h1, rfl⟩ | ⟨a, ts1, v, h1, rfl, hv, hst1⟩⟩
    · have HB := Lib.hid (And.intro hb2 h1)
      clear hb2 h1
      go_wp2
      exact ⟨rfl, HI.out.bt.trans HB.out.1, .inl ⟨by rw [HV.out, HB.out.2], rfl⟩⟩
    have HI2 := Lib.hid (HI.out.but hb2 hst1)
    have HND := Lib.hid ((handed HI.out hv).sub (B := fun b => w.heap.size ≤ b ∧ b ≠ w.heap.size ∧ b < w2.heap.size) (fun b h h0 => ⟨h.1, h.2, h0⟩))
    have HLT2 := Lib.hid (P_len V ok n .sum ts a ts1 h1).1
    have HV2 := Lib.hid HV.out
    simp only [h1] at HV2
    obtain ⟨o1, n1, s1, x1, l1, c1, rfl⟩ := hv.agg
    clear hb2 h1 hv hst1 HV
    have HI4 : Hid (RI w r s ok w.heap.size ts1 (w2.alloc (.cells #[.string o1, .float .f64 n1, .string s1, .slice x1 l1 c1] 119))) := Lib.hid (HI2.out.below ((Below.refl _ _).alloc (Nat.le_refl _) _))
    have HND4 := Lib.hid (HND.out.below ((Below.refl _ _).alloc (Nat.le_refl _) (.cells #[.string o1, .float .f64 n1, .string s1, .slice x1 l1 c1] 119)))
    have HG4 : Hid (NB (w2.alloc (.cells #[.string o1, .float .f64 n1, .string s1, .slice x1 l1 c1] 119)) w2.heap.size (.agg #[.string o1, .float .f64 n1, .string s1, .slice x1 l1 c1])) := Lib.hid ⟨_, _, _, _, rfl, heap_alloc_new _ _⟩
    have HLG := Lib.hid (And.intro (show r < w2.heap.size from HI2.out.st.lt) (show w.heap.size < w2.heap.size from HI2.out.lt0))
    -- what the reader holds
    obtain ⟨k, g, ⟨ra, hrd⟩, hk⟩ : ∃ (k : Nat) (g : Bs), (∃ a, Rd (w2.alloc (.cells #[.string o1, .float .f64 n1, .string s1, .slice x1 l1 c1] 119)) r s a k g) ∧ ((k = 0 ∧ ts1 = []) ∨ ∃ t rest, ts1 = t :: rest ∧ t.k = k ∧ t.s = g) := by
      obtain ⟨a, k, g, ha, hr, ⟨h1, h2, h3, _⟩ | ⟨t, rest, h1, h2, h3, h4, h5, h6⟩⟩ := HI4.out.st
      · exact ⟨k, g, ⟨a, hr⟩, .inl ⟨h2, h1⟩⟩
      · exact ⟨k, g, ⟨a, hr⟩, .inr ⟨t, rest, h1, h2, h3⟩⟩
    obtain ⟨_, _, rc2, rc3, _, _⟩ := hrd.cells
    have HK := Lib.hid hk
    clear hk hrd
    by_cases hc : k = 4 ∧ isCmp g = true
    · obtain ⟨rfl, hcm⟩ := hc
      obtain ⟨t, rest, hts, htk, htg⟩ : ∃ t rest, ts1 = t :: rest ∧ t.k = 4 ∧ t.s = g := by
        rcases HK.out with ⟨h, _⟩ | h
        · cases h
        · exact h
      have HV3 : Hid (res = match adv ok ts1 with
            | none => none
            | some t1 => match P V ok n .sum t1 with
              | none => none
              | some (b, r') => some (two g a b, r')) := Lib.hid (by
        rw [HV2.out, hts]
        simp only
        rw [if_pos ⟨htk, by rw [htg]; exact hcm⟩, htg])
      have HA := Lib.hid (fun W h => wadv r s ok ts1 HSL.out (by rw [hts]; simp) W h)
      have hg6 : g = [61] ∨ g = [33, 61] ∨ g = [60] ∨ g = [60, 61] ∨ g = [62] ∨ g = [62, 61] := by simpa [isCmp] using hcm
      have hT : (((tx g).toList == [61]) = true) ∨ (((tx g).toList == [61]) = false ∧ ((tx g).toList == [33, 61]) = true) ∨ (((tx g).toList == [61]) = false ∧ ((tx g).toList == [33, 61]) = false ∧ ((tx g).toList == [60]) = true) ∨ (((tx g).toList == [61]) = false ∧ ((tx g).toList == [33, 61]) = false ∧ ((tx g).toList == [60]) = false ∧ ((tx g).toList == [60, 61]) = true) ∨ (((tx g).toList == [61]) = false ∧ ((tx g).toList == [33, 61]) = false ∧ ((tx g).toList == [60]) = false ∧ ((tx g).toList == [60, 61]) = false ∧ ((tx g).toList == [62]) = true) ∨ (((tx g).toList == [61]) = false ∧ ((tx g).toList == [33, 61]) = false ∧ ((tx g).toList == [60]) = false ∧ ((tx g).toList == [60, 61]) = false ∧ ((tx g).toList == [62]) = false ∧ ((tx g).toList == [62, 61]) = true) := by
        rcases hg6 with rfl | rfl | rfl | rfl | rfl | rfl
        · exact .inl (tx_same _)
        · exact .inr (.inl (⟨tx_ne (by decide), tx_same _⟩))
        · exact .inr (.inr (.inl (⟨tx_ne (by decide), tx_ne (by decide), tx_same _⟩)))
        · exact .inr (.inr (.inr (.inl (⟨tx_ne (by decide), tx_ne (by decide), tx_ne (by decide), tx_same _⟩))))
        · exact .inr (.inr (.inr (.inr (.inl (⟨tx_ne (by decide), tx_ne (by decide), tx_ne (by decide), tx_ne (by decide), tx_same _⟩)))))
        · exact .inr (.inr (.inr (.inr (.inr (⟨tx_ne (by decide), tx_ne (by decide), tx_ne (by decide), tx_ne (by decide), tx_ne (by decide), tx_same _⟩)))))
      clear hts htk htg hcm hg6
      rcases hT with h1 | ⟨h1, h2⟩ | ⟨h1, h2, h3⟩ | ⟨h1, h2, h3, h4⟩ | ⟨h1, h2, h3, h4, h5⟩ | ⟨h1, h2, h3, h4, h5, h6⟩
      all_goals
        go_wp2_with (first | (go_at_call 82; fail))
        generalize w2.alloc (.cells #[.string o1, .float .f64 n1, .string s1, .slice x1 l1 c1] 119) = W4 at HI4 HND4 HG4 ⊢
        generalize w2.heap.size = gg at HND4 HG4 HLG ⊢
        refine (HA.out W4 HI4.out.st).mono ?_
        rintro e w5 ⟨hb3, ⟨h1, rfl⟩ | ⟨t1, h1, rfl, hst3⟩⟩
        · have HB := Lib.hid (And.intro hb3 h1)
          clear hb3 h1
          go_wp2
          exact ⟨rfl, HI4.out.bt.trans HB.out.1, .inl ⟨by rw [HV3.out, HB.out.2], rfl⟩⟩
        have HI5 := Lib.hid (HI4.out.but hb3 hst3)
        have HT5 := Lib.hid h1
        have HLT := Lib.hid (adv_len h1).1
        have HND5 := Lib.hid (HND4.out.but (by have := HI4.out.lt; intro h; omega) hb3)
        have HG5 := Lib.hid (HG4.out.but hb3 (by have := HLG.out; omega))
        obtain ⟨a0, a1, a2, a3, bf⟩ := HG5.out.cells
        clear bf hb3 h1 hst3
        go_wp2_with fail
        refine wp_region_any (by kernel_rfl) ?_
        change wpAny _ _ _ _ _ _ _ (World.drew _)
        refine wpAny_take (i := 0) (v := _) rfl (by kernel_rfl) (by kernel_rfl) (by kernel_rfl) (fun _ _ _ h => h) (Or.inl ⟨by rfl, by intro w; go_simp; try (with_reducible rfl)⟩) ?_
        refine wpAny_take (i := 2) (v := _) rfl (by kernel_rfl) (by kernel_rfl) (by kernel_rfl) (fun _ _ _ h => h) (Or.inl ⟨by rfl, by intro w; go_simp; try (with_reducible rfl)⟩) ?_
        refine wpAny_ready (rs := [1, 3]) (by kernel_rfl) (by simp) ?_
        refine AllReady.cons rfl (fun K hK => ?_) (AllReady.cons rfl (fun K hK => ?_) AllReady.nil)
        · go_simp
          refine hK _ _ ?_
          clear hK K
          refine wpAny_ready (rs := [3]) (by kernel_rfl) (by simp) ?_
          refine AllReady.cons rfl (fun K hK => ?_) AllReady.nil
          go_simp
          go_wp2_with (first | (go_at_call 147; fail))
          refine (HHA.out n (Nat.le_refl _) r t1 _ (by have := HN.out; have := HLT.out; have := HLT2.out; omega) HI5.out.st.drew).mono ?_
          rintro e w6 ⟨hb6, ⟨h1, rfl⟩ | ⟨b, ts2, vb, h1, rfl, hvb, hst6⟩⟩
          · exact ⟨rfl, HI5.out.bt.drew.trans hb6, .inl ⟨by rw [HV3.out, HT5.out]; simp only; rw [h1], rfl⟩⟩
          have HB6 : Hid (But [r] w5 w6) := Lib.hid ((But.refl _ _).drew.trans hb6)
          have HI6 := Lib.hid (HI5.out.but HB6.out hst6)
          have HVE := Lib.hid h1
          have HNE6 := Lib.hid (hvb.sub (B := fun b => w.heap.size ≤ b ∧ b ≠ w.heap.size) (fun b h h0 => by have h1 := HI5.out.bt.size; have h2 := HI5.out.lt0; have h3 : w5.heap.size ≤ b := h; show _ ∧ _; omega))
          have HND6 := Lib.hid ((HND5.out.but (by have := HI4.out.lt; intro h; omega) HB6.out).sub (B := fun b => w.heap.size ≤ b ∧ b ≠ w.heap.size) (fun b h _ => ⟨h.1, h.2.1⟩))
          obtain ⟨o2, n2, s2, x2, l2, c2, rfl⟩ := hvb.agg
          clear a0 a1 a2 a3 hb6 h1 hvb hst6
          have HG6 := Lib.hid (HG5.out.but HB6.out (by have := HLG.out; omega))
          obtain ⟨a0, a1, a2, a3, bf⟩ := HG6.out.cells
          clear bf
          refine hK _ _ ?_
          clear hK K
          refine wpAny_ready (rs := [4]) (by kernel_rfl) (by simp) ?_
          refine AllReady.cons rfl (fun K hK => ?_) AllReady.nil
          go_simp
          go_wp2_with (first | (go_at_call 106; fail))
          refine (wpair (fun b => w.heap.size ≤ b ∧ b ≠ w.heap.size) g _ _ a b _ ?_ HND6.out HNE6.out).mono ?_
          · intro b hb; have h1 := HI6.out.lt0; have h2 := HI6.out.bt.size; show _ ∧ _; omega
          rintro e w7 ⟨v7, rfl, hv7, hb7⟩
          have HI7 := Lib.hid (HI6.out.below hb7)
          have HV7 := Lib.hid hv7
          obtain ⟨o6, n6, s6, x6, l6, c6, rfl⟩ := hv7.agg
          clear a0 a1 a2 a3 hv7 hb7
          obtain ⟨z0, z1, z2, z3, hz⟩ := HI7.out.res
          have HZ := Lib.hid hz
          obtain ⟨b0, b1, b2, b3, bf⟩ := hz.cells
          have f0 := bf 0
          have f1 := bf 1
          have f2 := bf 2
          have f3 := bf 3
          clear hz bf
          refine hK _ _ ?_
          clear hK K
          refine wpAny_ready (rs := [5]) (by kernel_rfl) (by simp) ?_
          refine AllReady.cons rfl (fun K hK => ?_) AllReady.nil
          go_simp
          refine hK _ _ ?_
          clear hK K
          refine wpAny_done (by kernel_rfl) ?_ _
          go_wp2
          rw [HV3.out, HT5.out]
          simp only
          rw [HVE.out]
          exact bodyPost_ret (node_res rfl _ _ w.heap.size _ _ _ _ rfl HZ.out.put.heap) rfl (RI.done HI7.out HV7.out)
        · go_simp
          go_wp2_with (first | (go_at_call 147; fail))
          refine (HHA.out n (Nat.le_refl _) r t1 _ (by have := HN.out; have := HLT.out; have := HLT2.out; omega) HI5.out.st.drew).mono ?_
          rintro e w6 ⟨hb6, ⟨h1, rfl⟩ | ⟨b, ts2, vb, h1, rfl, hvb, hst6⟩⟩
          · exact ⟨rfl, HI5.out.bt.drew.trans hb6, .inl ⟨by rw [HV3.out, HT5.out]; simp only; rw [h1], rfl⟩⟩
          have HB6 : Hid (But [r] w5 w6) := Lib.hid ((But.refl _ _).drew.trans hb6)
          have HI6 := Lib.hid (HI5.out.but HB6.out hst6)
          have HVE := Lib.hid h1
          have HNE6 := Lib.hid (hvb.sub (B := fun b => w.heap.size ≤ b ∧ b ≠ w.heap.size) (fun b h h0 => by have h1 := HI5.out.bt.size; have h2 := HI5.out.lt0; have h3 : w5.heap.size ≤ b := h; show _ ∧ _; omega))
          have HND6 := Lib.hid ((HND5.out.but (by have := HI4.out.lt; intro h; omega) HB6.out).sub (B := fun b => w.heap.size ≤ b ∧ b ≠ w.heap.size) (fun b h _ => ⟨h.1, h.2.1⟩))
          obtain ⟨o2, n2, s2, x2, l2, c2, rfl⟩ := hvb.agg
          clear a0 a1 a2 a3 hb6 h1 hvb hst6
          have HG6 := Lib.hid (HG5.out.but HB6.out (by have := HLG.out; omega))
          obtain ⟨a0, a1, a2, a3, bf⟩ := HG6.out.cells
          clear bf
          refine hK _ _ ?_
          clear hK K
          refine wpAny_ready (rs := [1]) (by kernel_rfl) (by simp) ?_
          refine AllReady.cons rfl (fun K hK => ?_) AllReady.nil
          go_simp
          refine hK _ _ ?_
          clear hK K
          refine wpAny_ready (rs := [4]) (by kernel_rfl) (by simp) ?_
          refine AllReady.cons rfl (fun K hK => ?_) AllReady.nil
          go_simp
          go_wp2_with (first | (go_at_call 106; fail))
          refine (wpair (fun b => w.heap.size ≤ b ∧ b ≠ w.heap.size) g _ _ a b _ ?_ HND6.out HNE6.out).mono ?_
          · intro b hb; have h1 := HI6.out.lt0; have h2 := HI6.out.bt.size; show _ ∧ _; omega
          rintro e w7 ⟨v7, rfl, hv7, hb7⟩
          have HI7 := Lib.hid (HI6.out.below hb7)
          have HV7 := Lib.hid hv7
          obtain ⟨o6, n6, s6, x6, l6, c6, rfl⟩ := hv7.agg
          clear a0 a1 a2 a3 hv7 hb7
          obtain ⟨z0, z1, z2, z3, hz⟩ := HI7.out.res
          have HZ := Lib.hid hz
          obtain ⟨b0, b1, b2, b3, bf⟩ := hz.cells
          have f0 := bf 0
          have f1 := bf 1
          have f2 := bf 2
          have f3 := bf 3
          clear hz bf
          refine hK _ _ ?_
          clear hK K
          refine wpAny_ready (rs := [5]) (by kernel_rfl) (by simp) ?_
          refine AllReady.cons rfl (fun K hK => ?_) AllReady.nil
          go_simp
          refine hK _ _ ?_
          clear hK K
          refine wpAny_done (by kernel_rfl) ?_ _
          go_wp2
          rw [HV3.out, HT5.out]
          simp only
          rw [HVE.out]
          exact bodyPost_ret (node_res rfl _ _ w.heap.size _ _ _ _ rfl HZ.out.put.heap) rfl (RI.done HI7.out HV7.out)
    · have HV3 : Hid (res = some (a, ts1)) := Lib.hid (by
        rw [HV2.out]
        rcases HK.out with ⟨_, h⟩ | ⟨t, rest, h1, h2, h3⟩
        · rw [h]
        · rw [h1]
          simp only
          rw [if_neg (by rw [h2, h3]; exact hc)])
      obtain ⟨z0, z1, z2, z3, hz⟩ := HI4.out.res
      have HZ := Lib.hid hz
      obtain ⟨b0, b1, b2, b3, bf⟩ := hz.cells
      obtain ⟨a0, a1, a2, a3, _⟩ := HG4.out.cells
      have f0 := bf 0
      have f1 := bf 1
      have f2 := bf 2
      have f3 := bf 3
      clear hz bf
      by_cases k4 : k = 4
      · subst k4
        have hg : g ≠ [61] ∧ g ≠ [33, 61] ∧ g ≠ [60] ∧ g ≠ [60, 61] ∧ g ≠ [62] ∧ g ≠ [62, 61] := by
          have : isCmp g = false := by
            cases h : isCmp g
            · rfl
            · exact absurd ⟨rfl, h⟩ hc
          simpa [isCmp, not_or] using this
        have t1 : ((tx g).toList == [61]) = false := tx_ne hg.1
        have t2 : ((tx g).toList == [33, 61]) = false := tx_ne hg.2.1
        have t3 : ((tx g).toList == [60]) = false := tx_ne hg.2.2.1
        have t4 : ((tx g).toList == [60, 61]) = false := tx_ne hg.2.2.2.1
        have t5 : ((tx g).toList == [62]) = false := tx_ne hg.2.2.2.2.1
        have t6 : ((tx g).toList == [62, 61]) = false := tx_ne hg.2.2.2.2.2
        clear hg hc
        go_wp2
        rw [HV3.out]
        exact bodyPost_ret (node_res rfl _ _ w.heap.size _ _ _ _ rfl HZ.out.put.heap) rfl (RI.done HI4.out (HND4.out.sub (fun b h _ => ⟨h.1, h.2.1⟩)))
      · have y : ((k : Int) != 4) = true := by simp; omega
        clear k4 hc
        go_wp2
        rw [HV3.out]
        exact bodyPost_ret (node_res rfl _ _ w.heap.size _ _ _ _ rfl HZ.out.put.heap) rfl (RI.done HI4.out (HND4.out.sub (fun b h _ => ⟨h.1, h.2.1⟩)))
  · have HNE : Hid (ts ≠ []) := Lib.hid (fun e => by rw [e] at hq; cases hq)
    rw [hq] at HIS
    have HV : Hid (res = match adv ok ts with
      | none => none
      | some t1 => match P V ok n .not t1 with
        | none => none
        | some (b, r) => some (one wnot b, r)) := Lib.hid (by rw [HR.out]; simp only [P]; rw [if_pos hq]; rfl)
    clear hq HR
    go_wp2_with (first | (go_at_call 105; refine (HIS.out).mono ?_; rintro e w5 ⟨rfl, rfl⟩))
    clear HIS
    generalize w.alloc (.cells #[.string ⟨#[]⟩, .float .f64 0, .string ⟨#[]⟩, .slice none 0 0] 119) = W0 at HI ⊢
    go_at_call 82
    refine (wadv r s ok ts HSL.out HNE.out _ HI.out.st).mono ?_
    rintro e w3 ⟨hb3, ⟨h1, rfl⟩ | ⟨t1, h1, rfl, hst3⟩⟩
    · have HB := Lib.hid (And.intro hb3 h1)
      clear hb3 h1
      go_wp2
      exact ⟨rfl, HI.out.bt.trans HB.out.1, .inl ⟨by rw [HV.out, HB.out.2], rfl⟩⟩
    · have HI3 := Lib.hid (HI.out.but hb3 hst3)
      have HT := Lib.hid h1
      have HLT := Lib.hid (adv_len h1).1
      clear hb3 h1 hst3
      go_wp2_with (first | (go_at_call 131; fail))
      go_at_call 131
      refine (HH.out n (Nat.le_refl _) r t1 _ (by have := HN.out; have := HLT.out; omega) HI3.out.st).mono ?_
      rintro e w2 ⟨hb2, ⟨h1, rfl⟩ | ⟨a, ts1, v, h1, rfl, hv, hst1⟩⟩
      · have HB := Lib.hid (And.intro hb2 h1)
        clear hb2 h1
        go_wp2
        exact ⟨rfl, HI3.out.bt.trans HB.out.1, .inl ⟨by rw [HV.out, HT.out]; simp only; rw [HB.out.2], rfl⟩⟩
      · have HI2 := Lib.hid (HI3.out.but hb2 hst1)
        have HB := Lib.hid (And.intro hv h1)
        have HL0 := Lib.hid HI3.out.lt0
        clear hb2 h1 hv hst1
        go_wp2_with (first | (go_at_call 146; fail))
        refine (wsingle (fun b => w.heap.size ≤ b ∧ b ≠ w.heap.size) wnot v a _ ?_ ?_).mono ?_
        · intro b hb; have h1 := HI2.out.lt0; have h2 := HI2.out.bt.size; show _ ∧ _; omega
        · exact HB.out.1.sub (fun b h _ => by have h1 := HI3.out.bt.size; have h2 := HL0.out; have h3 : w3.heap.size ≤ b := h; show _ ∧ _; omega)
        rintro e w6 ⟨v6, rfl, hv6, hb6⟩
        have HI6 := Lib.hid (HI2.out.below hb6)
        have HV6 := Lib.hid hv6
        obtain ⟨o1, n1, s1, x1, l1, c1, rfl⟩ := hv6.agg
        obtain ⟨z0, z1, z2, z3, hz⟩ := HI6.out.res
        have HZ := Lib.hid hz
        obtain ⟨b0, b1, b2, b3, bf⟩ := hz.cells
        have f0 := bf 0
        have f1 := bf 1
        have f2 := bf 2
        have f3 := bf 3
        clear hz bf hv6 hb6
        go_wp2
        rw [HV.out, HT.out]
        simp only
        rw [HB.out.2]
        exact bodyPost_ret (node_res rfl _ _ w.heap.size _ _ _ _ rfl HZ.out.put.heap) rfl (RI.done HI6.out HV6.out)
end Go.Proofs.YtdomglkcfecnnaaGreat
/- The readers of parts, all together. -/
namespace Go.Proofs.YtdomglkcfecnnaaGreat
open Go.RowKit Go.Shelf
theorem wparts (s : Bs) (ok : Bool) (hs : s.length ≤ 1000000) : ∀ n k, k ≤ n →
    PC valV s ok 83 .or 11 k ∧ PC valV s ok 104 .and 9 k ∧ PC valV s ok 131 .not 7 k ∧ PC valV s ok 147 .sum 6 k ∧
    PC valV s ok 156 .prod 4 k ∧ PC valV s ok 161 .signed 2 k ∧ PC valV s ok 164 .atom 1 k := by
  intro n
  induction n with
  | zero =>
    intro k hk
    obtain rfl : k = 0 := by omega
    exact ⟨fun r ts w h => by omega, fun r ts w h => by omega, fun r ts w h => by omega, fun r ts w h => by omega, fun r ts w h => by omega, fun r ts w h => by omega, fun r ts w h => by omega⟩
  | succ n ih =>
    intro k hk
    by_cases h : k ≤ n
    · exact ih k h
    · obtain rfl : k = n + 1 := by omega
      exact ⟨wor_step valV s ok hs n (fun k h => (ih k h).2.1), wand_step valV s ok hs n (fun k h => (ih k h).2.2.1), wnot_step valV s ok hs n (fun k h => (ih k h).2.2.1) (fun k h => (ih k h).2.2.2.1),
        wsum_step valV s ok hs n (fun k h => (ih k h).2.2.2.2.1), wproduct_step valV s ok hs n (fun k h => (ih k h).2.2.2.2.2.1), wsigned_step valV s ok hs n (fun k h => (ih k h).2.2.2.2.2.1) (fun k h => (ih k h).2.2.2.2.2.2),
        watom_step s ok hs n (fun k h => (ih k h).1)⟩
/-- The whole text, read. -/
theorem wreadOr (s : Bs) (ok : Bool) (hs : s.length ≤ 1000000) (n r : Nat) (ts : List Tok) (w : World) (hn : 12 * ts.length + 11 ≤ n) (hst : St r s ok ts w) :
    Calls Tryz.prog 83 #[.pointer (some ⟨r, 0, none⟩)] w (PEnd r s ok (P valV ok n .or ts) w) :=
  (wparts s ok hs n n (Nat.le_refl _)).1 r ts w hn hst
end Go.Proofs.YtdomglkcfecnnaaGreat
