/- Plain words: runes that were written are read again, clusters put together are cut again. No program in sight. -/
import Derived.Test.YtdehjofmangmbaaGreatKA
namespace Go.Proofs.YtdehjofmangmbaaGreat
theorem by8_nat {x : Int} (h : 0 ≤ x) (h2 : x < 256) : (by8 x).toNat = x.toNat := by
  unfold by8
  rw [UInt8.toNat_ofNat']
  omega
theorem shp_1 {c : Nat} (h : c < 128) : shp c = ⟨1, 0, 0, c⟩ := by unfold shp; rw [if_pos h]
theorem tl_in {k lo hi : Nat} {c : UInt8} {t : Bs} {r : Int} (h1 : lo ≤ c.toNat) (h2 : c.toNat ≤ hi) : tl (k + 1) lo hi (c :: t) r = tl k 128 191 t (r * 64 + (c.toNat % 64 : Nat)) := by
  rw [tl_step, decide_eq_true ⟨h1, h2⟩, if_pos rfl]
theorem rb_is {r : Int} (h : isR r = true) : rb r = rb0 r := by unfold rb; rw [if_pos h]
theorem isR_iff {r : Int} (h : isR r = true) : 0 ≤ r ∧ r ≤ 1114111 ∧ (r < 55296 ∨ 57343 < r) := by unfold isR at h; exact of_decide_eq_true h
/-- A rune that was written is read again. -/
theorem nxt_rb (r : Int) (h : isR r = true) (t : Bs) : nxt (rb r ++ t) = (r, (rb r).length, false) := by
  obtain ⟨g1, g2, g3⟩ := isR_iff h
  rw [rb_is h]
  unfold rb0
  by_cases h1 : r < 128
  · rw [if_pos h1]
    have e := by8_nat (x := r) (by omega) (by omega)
    rw [List.cons_append, nxt_of (shp_1 (by rw [e]; omega)) (by decide), e]
    show (((r.toNat : Nat) : Int), 1, false) = (r, 1, false)
    rw [Int.toNat_of_nonneg g1]
  · rw [if_neg h1]
    by_cases h2 : r < 2048
    · rw [if_pos h2]
      have e1 := by8_nat (x := 192 + r / 64) (by omega) (by omega)
      have e2 := by8_nat (x := 128 + r % 64) (by omega) (by omega)
      rw [List.cons_append, List.cons_append, nxt_of (shp_2 (by rw [e1]; omega) (by rw [e1]; omega)) (by decide)]
      show nxtT 2 (tl (0 + 1) 128 191 _ _) = _
      rw [tl_in (by rw [e2]; omega) (by rw [e2]; omega), e1, e2]
      have q : (((192 + r / 64).toNat % 32 : Nat) : Int) * 64 + (((128 + r % 64).toNat % 64 : Nat) : Int) = r := by omega
      show ((((192 + r / 64).toNat % 32 : Nat) : Int) * 64 + (((128 + r % 64).toNat % 64 : Nat) : Int), 2, false) = (r, 2, false)
      rw [q]
    · rw [if_neg h2]
      by_cases h3 : r < 65536
      · rw [if_pos h3]
        have e1 := by8_nat (x := 224 + r / 4096) (by omega) (by omega)
        have e2 := by8_nat (x := 128 + r / 64 % 64) (by omega) (by omega)
        have e3 := by8_nat (x := 128 + r % 64) (by omega) (by omega)
        rw [List.cons_append, List.cons_append, List.cons_append, nxt_of (shp_3 (by rw [e1]; omega) (by rw [e1]; omega)) (by decide)]
        show nxtT 3 (tl (1 + 1) _ _ _ _) = _
        rw [tl_in (by rw [e1, e2]; unfold lo3; split <;> omega) (by rw [e1, e2]; unfold hi3; split <;> omega), tl_in (k := 0) (by rw [e3]; omega) (by rw [e3]; omega), e1, e2, e3]
        have q : ((((224 + r / 4096).toNat : Nat) : Int) - 224) * 64 + (((128 + r / 64 % 64).toNat % 64 : Nat) : Int) = r / 64 := by omega
        show ((((((224 + r / 4096).toNat : Nat) : Int) - 224) * 64 + (((128 + r / 64 % 64).toNat % 64 : Nat) : Int)) * 64 + (((128 + r % 64).toNat % 64 : Nat) : Int), 3, false) = (r, 3, false)
        rw [q]
        congr 1
        omega
      · rw [if_neg h3]
        have e1 := by8_nat (x := 240 + r / 262144) (by omega) (by omega)
        have e2 := by8_nat (x := 128 + r / 4096 % 64) (by omega) (by omega)
        have e3 := by8_nat (x := 128 + r / 64 % 64) (by omega) (by omega)
        have e4 := by8_nat (x := 128 + r % 64) (by omega) (by omega)
        rw [List.cons_append, List.cons_append, List.cons_append, List.cons_append, nxt_of (shp_4 (by rw [e1]; omega) (by rw [e1]; omega)) (by decide)]
        show nxtT 4 (tl (2 + 1) _ _ _ _) = _
        rw [tl_in (by rw [e1, e2]; unfold lo4; split <;> omega) (by rw [e1, e2]; unfold hi4; split <;> omega), tl_in (k := 1) (by rw [e3]; omega) (by rw [e3]; omega), tl_in (k := 0) (by rw [e4]; omega) (by rw [e4]; omega), e1, e2, e3, e4]
        have q : ((((240 + r / 262144).toNat : Nat) : Int) - 240) * 64 + (((128 + r / 4096 % 64).toNat % 64 : Nat) : Int) = r / 4096 := by omega
        have q2 : r / 4096 * 64 + (((128 + r / 64 % 64).toNat % 64 : Nat) : Int) = r / 64 := by omega
        show (((((((240 + r / 262144).toNat : Nat) : Int) - 240) * 64 + (((128 + r / 4096 % 64).toNat % 64 : Nat) : Int)) * 64 + (((128 + r / 64 % 64).toNat % 64 : Nat) : Int)) * 64 + (((128 + r % 64).toNat % 64 : Nat) : Int), 4, false) = (r, 4, false)
        rw [q, q2]
        congr 1
        omega
/-- The runes of a text. -/
def rns (l : Bs) : List Int := (itm l).map (·.2)
theorem itmN_fuel : ∀ (f g a b : Nat) (l : Bs), l.length ≤ f → l.length ≤ g → (itmN f a l).map (·.2) = (itmN g b l).map (·.2)
  | 0, g, a, b, l, h1, _ => by
    have e : l = [] := List.length_eq_zero_iff.1 (by omega)
    subst e
    rw [itmN_nil, itmN_nil]
  | f + 1, 0, a, b, l, _, h2 => by
    have e : l = [] := List.length_eq_zero_iff.1 (by omega)
    subst e
    rw [itmN_nil, itmN_nil]
  | f + 1, g + 1, a, b, l, h1, h2 => by
    by_cases e : l = []
    · subst e
      rw [itmN_nil, itmN_nil]
    · rw [itmN_cons _ _ _ e, itmN_cons _ _ _ e, List.map_cons, List.map_cons]
      have := stp_n l e
      rw [itmN_fuel f g (a + (stp l).2) (b + (stp l).2) (l.drop (stp l).2) (by simp; omega) (by simp; omega)]
theorem rns_nil : rns [] = [] := rfl
theorem rns_cons {l : Bs} (h : l ≠ []) : rns l = (stp l).1 :: rns (l.drop (stp l).2) := by
  have hs := stp_n l h
  have hl : l.length = (l.length - 1) + 1 := by omega
  unfold rns itm
  rw [hl, itmN_cons _ _ _ h, List.map_cons]
  rw [itmN_fuel (l.length - 1) (l.drop (stp l).2).length (0 + (stp l).2) 0 (l.drop (stp l).2) (by simp; omega) (Nat.le_refl _)]
theorem stp_rb (r : Int) (h : isR r = true) (t : Bs) : stp (rb r ++ t) = (r, (rb r).length) := by
  unfold stp
  rw [nxt_rb r h t]
  rfl
theorem rns_rb (r : Int) (h : isR r = true) (t : Bs) : rns (rb r ++ t) = r :: rns t := by
  have hne : rb r ++ t ≠ [] := by
    have := rb_ne r
    intro e
    exact this (List.append_eq_nil_iff.1 e).1
  rw [rns_cons hne, stp_rb r h t, List.drop_left]
theorem rns_rbs : ∀ (rs : List Int) (t : Bs), (∀ r ∈ rs, isR r = true) → rns ((rs.map rb).flatten ++ t) = rs ++ rns t
  | [], t, _ => rfl
  | r :: rs, t, h => by
    rw [List.map_cons, List.flatten_cons, List.append_assoc, rns_rb r (h r (by simp)), rns_rbs rs t (fun x hx => h x (by simp [hx]))]
    rfl
theorem tl_app (b : Bs) : ∀ (k lo hi : Nat) (t : Bs) (r : Int), (k = 0 ∨ 128 ≤ lo) → tl k lo hi (t ++ 32 :: b) r = (match tl k lo hi t r with | none => some none | some x => some x)
  | 0, _, _, _, _, _ => rfl
  | k + 1, lo, hi, [], r, h => by
    have h32 : (32 : UInt8).toNat = 32 := rfl
    show (if (32 : UInt8).toNat < lo ∨ hi < (32 : UInt8).toNat then some none else tl k 128 191 b (r * 64 + ((32 : UInt8).toNat % 64 : Nat))) = some none
    rw [if_pos (.inl (by omega))]
  | k + 1, lo, hi, c :: t, r, h => by
    show (if c.toNat < lo ∨ hi < c.toNat then some none else tl k 128 191 (t ++ 32 :: b) (r * 64 + (c.toNat % 64 : Nat))) = (match (if c.toNat < lo ∨ hi < c.toNat then some none else tl k 128 191 t (r * 64 + (c.toNat % 64 : Nat))) with | none => some none | some x => some x)
    split
    · rfl
    · exact tl_app b k 128 191 t _ (.inr (Nat.le_refl _))
theorem shp_lo (c : UInt8) : (shp c.toNat).m - 1 = 0 ∨ 128 ≤ (shp c.toNat).lo := by
  have hall : ∀ c : Fin 256, (shp c.1).m - 1 = 0 ∨ 128 ≤ (shp c.1).lo := by decide +kernel
  exact hall ⟨c.toNat, UInt8.toNat_lt _⟩
theorem stp_app (a b : Bs) (ha : a ≠ []) : stp (a ++ 32 :: b) = stp a := by
  obtain ⟨c, t, rfl⟩ := List.exists_cons_of_ne_nil ha
  unfold stp
  show (if (nxt (c :: (t ++ 32 :: b))).2.2 = true then ((65533 : Int), 1) else ((nxt (c :: (t ++ 32 :: b))).1, (nxt (c :: (t ++ 32 :: b))).2.1)) = _
  unfold nxt
  simp only
  by_cases hm : (shp c.toNat).m = 0
  · rw [if_pos hm, if_pos hm]
  · rw [if_neg hm, if_neg hm, tl_app b _ _ _ _ _ (shp_lo c)]
    cases tl ((shp c.toNat).m - 1) (shp c.toNat).lo (shp c.toNat).hi t (shp c.toNat).r with
    | none => rfl
    | some x => rfl
/-- A blank parts the runes. -/
theorem rns_blank : ∀ (n : Nat) (a b : Bs), a.length ≤ n → rns (a ++ 32 :: b) = rns a ++ 32 :: rns b
  | 0, a, b, h => by
    have e : a = [] := List.length_eq_zero_iff.1 (by omega)
    subst e
    exact rns_rb 32 (by decide) b
  | n + 1, a, b, h => by
    by_cases e : a = []
    · subst e
      exact rns_rb 32 (by decide) b
    · have hs := stp_n a e
      rw [rns_cons (l := a ++ 32 :: b) (by simp), rns_cons e, stp_app a b e, List.drop_append_of_le_length hs.2, rns_blank n (a.drop (stp a).2) b (by simp; omega)]
      rfl
/-- One cluster: a base and marks. -/
def Clu (c : Bs) : Prop := ∃ (r : Int) (ms : List Int), 0 < ofW r ∧ (∀ m ∈ ms, isMk m = true) ∧ c = rb r ++ (ms.map rb).flatten ∧ c.length ≤ 64
theorem of_isR {r : Int} (h : 0 < ofW r) : isR r = true ∧ ctl r = false := by
  unfold ofW at h
  split at h
  · omega
  · rename_i q
    constructor
    · cases e : isR r
      · exact absurd (.inl e) q
      · rfl
    · cases e : ctl r
      · rfl
      · exact absurd (.inr (.inl e)) q
theorem mk_isR {r : Int} (h : isMk r = true) : isR r = true ∧ ofW r = 0 := by
  unfold isMk at h
  simp only [Bool.and_eq_true, decide_eq_true_eq] at h
  exact ⟨h.2, h.1.1⟩
theorem out_base (rs : List Int) {r : Int} (h : 0 < ofW r) : outR (rs ++ [r]) = outR rs ++ [rb r] := by rw [outR_snoc, if_pos h]
theorem out_mark (rs : List Int) {m : Int} {D : List Bs} {N : Bs} (h : outR rs = D ++ [N]) (hm : isMk m = true) (hl : N.length + (rb m).length ≤ 64) : outR (rs ++ [m]) = D ++ [N ++ rb m] := by
  have h2 : lastI (D ++ [N]) = N := by simp [lastI, List.getD_eq_getElem?_getD]
  rw [outR_snoc, if_neg (by have := (mk_isR hm).2; omega), h, h2, if_pos ⟨hm, by simp, hl⟩]
  simp
theorem out_marks : ∀ (ms rs : List Int) (D : List Bs) (N : Bs), outR rs = D ++ [N] → (∀ m ∈ ms, isMk m = true) → N.length + (ms.map rb).flatten.length ≤ 64 → outR (rs ++ ms) = D ++ [N ++ (ms.map rb).flatten]
  | [], rs, D, N, h, _, _ => by simpa using h
  | m :: ms, rs, D, N, h, hm, hl => by
    rw [List.map_cons, List.flatten_cons, List.length_append] at hl
    have h1 := out_mark rs h (hm m (by simp)) (by omega)
    have h2 := out_marks ms (rs ++ [m]) D (N ++ rb m) h1 (fun x hx => hm x (by simp [hx])) (by rw [List.length_append]; omega)
    rw [List.append_assoc] at h2
    rw [List.map_cons, List.flatten_cons, ← List.append_assoc]
    exact h2
theorem Clu.runes {c : Bs} (h : Clu c) (t : Bs) : ∃ rs, rns (c ++ t) = rs ++ rns t ∧ ∀ R, outR (R ++ rs) = outR R ++ [c] := by
  obtain ⟨r, ms, h1, h2, rfl, h3⟩ := h
  refine ⟨r :: ms, ?_, fun R => ?_⟩
  · rw [List.append_assoc, rns_rb r (of_isR h1).1, rns_rbs ms t (fun m hm => (mk_isR (h2 m hm)).1)]
    rfl
  · have := out_marks ms (R ++ [r]) (outR R) (rb r) (out_base R h1) h2 (by rw [List.length_append] at h3; exact h3)
    rw [List.append_assoc] at this
    exact this
theorem out_flat : ∀ (L : List Bs) (R : List Int), (∀ c ∈ L, Clu c) → outR (R ++ rns L.flatten) = outR R ++ L
  | [], R, _ => by rw [List.flatten_nil, rns_nil, List.append_nil, List.append_nil]
  | c :: L, R, h => by
    obtain ⟨rs, h1, h2⟩ := (h c (by simp)).runes L.flatten
    rw [List.flatten_cons, h1, ← List.append_assoc, out_flat L (R ++ rs) (fun x hx => h x (by simp [hx])), h2, List.append_assoc]
    rfl
/-- Clusters put together are cut again. -/
theorem cut_flat (L : List Bs) (h : ∀ c ∈ L, Clu c) : cutS L.flatten = L := by
  have := out_flat L [] h
  rw [cutS_out]
  have e : outR [] = [] := rfl
  rw [e, List.nil_append, List.nil_append] at this
  exact this
theorem getD_last {L : List Bs} (h : L ≠ []) : lastI L ∈ L := by
  have := List.length_pos_iff.2 h
  unfold lastI
  rw [List.getD_eq_getElem?_getD, List.getElem?_eq_getElem (by omega)]
  exact List.getElem_mem _
theorem out_clu : ∀ (rs R : List Int), (∀ c ∈ outR R, Clu c) → ∀ c ∈ outR (R ++ rs), Clu c
  | [], R, h => by simpa using h
  | r :: rs, R, h => by
    have h1 : ∀ c ∈ outR (R ++ [r]), Clu c := by
      intro c hc
      rw [outR_snoc] at hc
      split at hc
      · rename_i h0
        rcases List.mem_append.1 hc with q | q
        · exact h c q
        · simp at q
          subst q
          exact ⟨r, [], h0, by simp, by simp, by have := rb_len r; omega⟩
      · split at hc
        · rename_i h2
          obtain ⟨j, hj, e⟩ := List.getElem_of_mem hc
          rw [List.getElem_set] at e
          split at e
          · subst e
            obtain ⟨x, ms, g1, g2, g3, g4⟩ := h _ (getD_last h2.2.1)
            refine ⟨x, ms ++ [r], g1, fun m hm => ?_, ?_, by rw [List.length_append]; exact h2.2.2⟩
            · rcases List.mem_append.1 hm with q | q
              · exact g2 m q
              · simp at q; rw [q]; exact h2.1
            · rw [List.map_append, List.flatten_append, ← List.append_assoc, ← g3]
              simp
          · subst e
            exact h _ (List.getElem_mem _)
        · exact h c hc
    have h2 := out_clu rs (R ++ [r]) h1
    rw [List.append_assoc] at h2
    exact h2
theorem cut_clu (l : Bs) : ∀ c ∈ cutS l, Clu c := by
  have := out_clu (rns l) [] (fun c hc => by
    have e : outR [] = [] := rfl
    rw [e] at hc
    cases hc)
  rw [List.nil_append] at this
  exact this
theorem rb_low {r : Int} (h : isR r = true) (hr : r < 128) : rb r = [by8 r] := by
  rw [rb_is h]
  unfold rb0
  rw [if_pos hr]
theorem rb_high {r : Int} (h : isR r = true) (hr : ¬ r < 128) : ∀ b ∈ rb r, 128 ≤ b.toNat := by
  obtain ⟨g1, g2, g3⟩ := isR_iff h
  rw [rb_is h]
  unfold rb0
  rw [if_neg hr]
  intro b hb
  split at hb
  · simp only [List.mem_cons, List.not_mem_nil, or_false] at hb
    rcases hb with q | q <;> rw [q, by8_nat (by omega) (by omega)] <;> omega
  · split at hb
    · simp only [List.mem_cons, List.not_mem_nil, or_false] at hb
      rcases hb with q | q | q <;> rw [q, by8_nat (by omega) (by omega)] <;> omega
    · simp only [List.mem_cons, List.not_mem_nil, or_false] at hb
      rcases hb with q | q | q | q <;> rw [q, by8_nat (by omega) (by omega)] <;> omega
set_option maxRecDepth 100000 in
theorem low_nomark : ∀ r : Fin 128, isMk (r.1 : Int) = false := by decide +kernel
set_option maxRecDepth 100000 in
theorem low_base : ∀ r : Fin 128, 0 < ofW (r.1 : Int) ↔ (32 ≤ r.1 ∧ r.1 ≤ 126) := by decide +kernel
theorem mk_high {m : Int} (h : isMk m = true) : ∀ b ∈ rb m, 128 ≤ b.toNat := by
  have h1 := mk_isR h
  refine rb_high h1.1 (fun q => ?_)
  have g := (isR_iff h1.1).1
  have e := low_nomark ⟨m.toNat, by omega⟩
  simp only [Int.toNat_of_nonneg g] at e
  rw [h] at e
  cases e
/-- A cluster is one byte of 32 .. 126 and high bytes, or high bytes alone. -/
theorem Clu.bytes {c : Bs} (h : Clu c) : (∃ r : Nat, 32 ≤ r ∧ r ≤ 126 ∧ ∃ ms : List Int, (∀ m ∈ ms, isMk m = true) ∧ c = by8 (r : Int) :: (ms.map rb).flatten) ∨ ∀ b ∈ c, 128 ≤ b.toNat := by
  obtain ⟨r, ms, h1, h2, h3, h4⟩ := h
  have hR := of_isR h1
  have g := isR_iff hR.1
  by_cases hr : r < 128
  · left
    have e := (low_base ⟨r.toNat, by omega⟩).1 (by simp only [Int.toNat_of_nonneg g.1]; exact h1)
    refine ⟨r.toNat, e.1, e.2, ms, h2, ?_⟩
    rw [h3, rb_low hR.1 hr, Int.toNat_of_nonneg g.1]
    rfl
  · right
    intro b hb
    rw [h3] at hb
    rcases List.mem_append.1 hb with q | q
    · exact rb_high hR.1 hr b q
    · obtain ⟨x, hx, hq⟩ := List.mem_flatten.1 q
      obtain ⟨m, hm, rfl⟩ := List.mem_map.1 hx
      exact mk_high (h2 m hm) b hq
theorem marks_high {ms : List Int} (h2 : ∀ m ∈ ms, isMk m = true) : ∀ b ∈ (ms.map rb).flatten, 128 ≤ b.toNat := by
  intro b q
  obtain ⟨x, hx, hq⟩ := List.mem_flatten.1 q
  obtain ⟨m, hm, rfl⟩ := List.mem_map.1 hx
  exact mk_high (h2 m hm) b hq
theorem map_same {f : UInt8 → UInt8} {l : Bs} (h : ∀ b ∈ l, f b = b) : l.map f = l := by
  induction l with
  | nil => rfl
  | cons c t ih => rw [List.map_cons, h c (by simp), ih (fun b hb => h b (by simp [hb]))]
theorem Clu.all {c : Bs} (h : Clu c) : ∀ b ∈ c, 32 ≤ b.toNat := by
  intro b hb
  rcases h.bytes with ⟨r, g1, g2, ms, g3, g4⟩ | q
  · rw [g4] at hb
    rcases List.mem_cons.1 hb with q | q
    · rw [q, by8_nat (by omega) (by omega)]; omega
    · have := marks_high g3 b q; omega
  · have := q b hb; omega
theorem Clu.flat {c : Bs} (h : Clu c) : c.map flatB = c := map_same fun b hb => by
  have := h.all b hb
  unfold flatB
  rw [if_neg]
  intro e
  rcases e with e | e | e <;> rw [e] at this <;> exact absurd this (by decide)
theorem map_flatten (f : UInt8 → UInt8) (L : List Bs) : L.flatten.map f = (L.map (List.map f)).flatten := by
  induction L with
  | nil => rfl
  | cons c t ih => simp [ih]
theorem map_id_of {f : Bs → Bs} {L : List Bs} (h : ∀ c ∈ L, f c = c) : L.map f = L := by
  induction L with
  | nil => rfl
  | cons c t ih => rw [List.map_cons, h c (by simp), ih (fun b hb => h b (by simp [hb]))]
/-- What is flat stays as it is. -/
theorem flat_flat (L : List Bs) (h : ∀ c ∈ L, Clu c) : flatS L.flatten = L.flatten := by
  unfold flatS cleanS
  rw [map_flatten, map_id_of (fun c hc => (h c hc).flat), cut_flat L h]
/-- Behind a base nothing ahead of it is turned. -/
theorem out_more : ∀ (rs R : List Int) (D : List Bs) (N : Bs), outR R = D ++ [N] → ∃ N' X, outR (R ++ rs) = D ++ (N ++ N') :: X
  | [], R, D, N, h => ⟨[], [], by simpa using h⟩
  | r :: rs, R, D, N, h => by
    have h1 : (∃ N', outR (R ++ [r]) = D ++ [N ++ N']) ∨ outR (R ++ [r]) = D ++ [N] ++ [rb r] := by
      rw [outR_snoc]
      split
      · right; rw [h]
      · left
        split
        · refine ⟨rb r, ?_⟩
          have h2 : lastI (D ++ [N]) = N := by simp [lastI, List.getD_eq_getElem?_getD]
          rw [h, h2]
          simp
        · exact ⟨[], by rw [h]; simp⟩
    rcases h1 with ⟨N1, e⟩ | e
    · obtain ⟨N2, X, e2⟩ := out_more rs (R ++ [r]) D (N ++ N1) e
      refine ⟨N1 ++ N2, X, ?_⟩
      rw [List.append_assoc] at e2
      rw [← List.append_assoc]
      exact e2
    · obtain ⟨N2, X, e2⟩ := out_more rs (R ++ [r]) (D ++ [N]) (rb r) e
      refine ⟨[], (rb r ++ N2) :: X, ?_⟩
      rw [List.append_assoc] at e2
      simpa using e2
/-- Clusters of two texts with a blank between. -/
theorem cut_blank (a b : Bs) : ∃ N X, cutS (a ++ 32 :: b) = cutS a ++ (32 :: N) :: X := by
  have h32 : (0 : Int) < ofW 32 := by decide +kernel
  have hb : rb 32 = [32] := by decide
  have h1 := out_base (rns a) h32
  rw [hb] at h1
  obtain ⟨N, X, e⟩ := out_more (rns b) (rns a ++ [32]) (outR (rns a)) [32] h1
  refine ⟨N, X, ?_⟩
  rw [cutS_out, cutS_out]
  have e2 := rns_blank a.length a b (Nat.le_refl _)
  unfold rns at e2
  rw [e2]
  rw [List.append_assoc] at e
  exact e
theorem cut_blank_one (a : Bs) (c : Nat) (hc : 32 ≤ c ∧ c ≤ 126) : cutS (a ++ [32, by8 (c : Int)]) = cutS a ++ [[32], [by8 (c : Int)]] := by
  have h32 : (0 : Int) < ofW 32 := by decide +kernel
  have hb : rb 32 = [32] := by decide
  have hcw : 0 < ofW (c : Int) := (low_base ⟨c, by omega⟩).2 hc
  have hcr := of_isR hcw
  have hcb := rb_low hcr.1 (by omega)
  have e1 : rns [by8 (c : Int)] = [(c : Int)] := by
    have := rns_rb (c : Int) hcr.1 []
    rw [hcb, rns_nil] at this
    exact this
  have e2 := rns_blank a.length a [by8 (c : Int)] (Nat.le_refl _)
  rw [e1] at e2
  have h1 := out_base (rns a) h32
  have h2 := out_base (rns a ++ [32]) hcw
  rw [h1, hb, hcb, List.append_assoc, List.append_assoc] at h2
  rw [cutS_out, cutS_out]
  unfold rns at e2 h2
  rw [e2]
  exact h2
end Go.Proofs.YtdehjofmangmbaaGreat
