/- Own texts, merged: FP. -/
import Derived.Test.YtdehjofmangmbaaGreatMS34
import Derived.Test.YtdehjofmangmbaaGreatKB
/- Plain words: folded texts, words more, how the places of a word stand. No program in sight. -/
namespace Go.Proofs.YtdehjofmangmbaaGreat
theorem lowB_high {b : UInt8} (h : 128 ≤ b.toNat) : lowB b = b := low_no (by omega)
theorem lowB_two (b : UInt8) : lowB (lowB b) = lowB b := by
  by_cases h : 65 ≤ b.toNat ∧ b.toNat ≤ 90
  · have := low_up h.1 h.2
    exact low_no (by omega)
  · rw [low_no h, low_no h]
theorem Clu.low {c : Bs} (h : Clu c) : Clu (c.map lowB) := by
  by_cases hh : ∀ b ∈ c, 128 ≤ b.toNat
  · rw [map_same (fun b hb => lowB_high (hh b hb))]
    exact h
  · rcases h.bytes with ⟨r, g1, g2, ms, g3, g4⟩ | q
    · obtain ⟨_, _, _, _, _, hl⟩ := h
      have hm : ((ms.map rb).flatten).map lowB = (ms.map rb).flatten := map_same (fun b hb => lowB_high (marks_high g3 b hb))
      have hc : ∃ r2 : Nat, 32 ≤ r2 ∧ r2 ≤ 126 ∧ lowB (by8 (r : Int)) = by8 (r2 : Int) := by
        have e := by8_nat (x := (r : Int)) (by omega) (by omega)
        by_cases hu : 65 ≤ r ∧ r ≤ 90
        · refine ⟨r + 32, by omega, by omega, UInt8.toNat_inj.1 ?_⟩
          have e2 := by8_nat (x := ((r + 32 : Nat) : Int)) (by omega) (by omega)
          have e3 := low_up (c := by8 (r : Int)) (by omega) (by omega)
          omega
        · exact ⟨r, g1, g2, low_no (by omega)⟩
      obtain ⟨r2, k1, k2, k3⟩ := hc
      have hb : 0 < ofW (r2 : Int) := (low_base ⟨r2, by omega⟩).2 ⟨k1, k2⟩
      have hR := of_isR hb
      refine ⟨(r2 : Int), ms, hb, g3, ?_, by rw [List.length_map]; exact hl⟩
      rw [g4, List.map_cons, k3, hm, rb_low hR.1 (by omega)]
      rfl
    · exact absurd q hh
theorem cl_eq (l : Bs) : clS l = (cutS (l.map flatB)).map (List.map lowB) := by
  unfold clS foldS flatS cleanS
  rw [map_flatten, cut_flat _ (fun c hc => by obtain ⟨x, hx, rfl⟩ := List.mem_map.1 hc; exact (cut_clu _ x hx).low)]
theorem cl_clu (l : Bs) : ∀ c ∈ clS l, Clu c := cut_clu _
theorem cl_low (l : Bs) : ∀ c ∈ clS l, c.map lowB = c := by
  rw [cl_eq]
  intro c hc
  obtain ⟨x, hx, rfl⟩ := List.mem_map.1 hc
  rw [List.map_map]
  exact List.map_congr_left (fun b _ => lowB_two b)
theorem fold_flat (l : Bs) : foldS l = (clS l).flatten := by
  rw [cl_eq]
  unfold foldS flatS cleanS
  rw [map_flatten]
theorem fold_fold (l : Bs) : foldS (foldS l) = foldS l := by
  rw [fold_flat l]
  unfold foldS
  rw [flat_flat _ (cl_clu l), map_flatten, map_id_of (cl_low l)]
/-- A text folded has the same clusters. -/
theorem cl_fold (l : Bs) : clS (foldS l) = clS l := by
  unfold clS
  rw [fold_fold]
theorem wds_fold (l : Bs) : wds (foldS l) = wds l := by
  unfold wds
  rw [cl_fold]
theorem cl_blank (a b : Bs) : ∃ c X, clS (a ++ 32 :: b) = clS a ++ c :: X ∧ isBl c = true := by
  obtain ⟨N, X, e⟩ := cut_blank (a.map flatB) (b.map flatB)
  refine ⟨(32 :: N).map lowB, X.map (List.map lowB), ?_, rfl⟩
  rw [cl_eq, cl_eq, List.map_append, List.map_cons]
  have h32 : flatB 32 = 32 := by decide
  rw [h32, e, List.map_append, List.map_cons]
theorem cl_x (a : Bs) : clS (a ++ [32, 120]) = clS a ++ [[32], [120]] := by
  have e := cut_blank_one (a.map flatB) 120 (by omega)
  have h1 : by8 ((120 : Nat) : Int) = 120 := by decide
  have h2 : ([32, 120] : Bs).map flatB = [32, 120] := by decide
  rw [h1] at e
  rw [cl_eq, cl_eq, List.map_append, h2, e, List.map_append]
  rfl
theorem wd_more : ∀ (X : List Bs) (ws P : List (List Bs)) (o : Bool), (o = true → P ≠ []) → ∃ P', (X.foldl wdR (ws ++ P, o)).1 = ws ++ P'
  | [], ws, P, o, _ => ⟨P, rfl⟩
  | c :: X, ws, P, o, h => by
    rw [List.foldl_cons]
    by_cases hb : isBl c = true
    · have e : wdR (ws ++ P, o) c = (ws ++ P, false) := by unfold wdR; rw [if_pos hb]
      rw [e]
      exact wd_more X ws P false (fun q => by cases q)
    · cases o with
      | true =>
        have hP := h rfl
        have hpl := List.length_pos_iff.2 hP
        have e : wdR (ws ++ P, true) c = (ws ++ P.set (P.length - 1) (P.getD (P.length - 1) [] ++ [c]), true) := by
          unfold wdR
          rw [if_neg hb, if_pos rfl]
          have e1 : (ws ++ P).length - 1 = ws.length + (P.length - 1) := by rw [List.length_append]; omega
          simp only
          rw [e1, List.set_append_right _ _ (by omega), List.getD_eq_getElem?_getD, List.getElem?_append_right (by omega), Nat.add_sub_cancel_left]
          simp only [List.getD_eq_getElem?_getD]
        rw [e]
        exact wd_more X ws _ true (fun _ q => by
          have := congrArg List.length q
          rw [List.length_set] at this
          simp at this
          exact hP this)
      | false =>
        have e : wdR (ws ++ P, false) c = (ws ++ (P ++ [[c]]), true) := by
          unfold wdR
          rw [if_neg hb, if_neg (by simp), List.append_assoc]
        rw [e]
        exact wd_more X ws _ true (fun _ => by simp)
/-- A query that goes on behind a blank has the same words ahead. -/
theorem wds_blank (a b : Bs) : ∃ P, wds (a ++ 32 :: b) = wds a ++ P := by
  obtain ⟨c, X, e, hb⟩ := cl_blank a b
  unfold wds
  rw [e]
  have e1 : wdF (clS a ++ c :: X) = X.foldl wdR (wdR (wdF (clS a)) c) := by simp [wdF]
  have e2 : wdR (wdF (clS a)) c = ((wdF (clS a)).1 ++ [], false) := by unfold wdR; rw [if_pos hb, List.append_nil]
  rw [e1, e2]
  exact wd_more X _ [] false (fun q => by cases q)
theorem kep_more (o : List Bs) : ∀ (P : List (List Bs)) (x f : Fnd), P.foldl (kepR o) (some x) = some f → x.rank ≤ f.rank ∧ x.gaps ≤ f.gaps
  | [], x, f, h => by cases h; exact ⟨Nat.le_refl _, Nat.le_refl _⟩
  | w :: P, x, f, h => by
    rw [List.foldl_cons] at h
    cases hf : fndS o w with
    | none =>
      have e : kepR o (some x) w = none := by unfold kepR; rw [hf]
      rw [e, kep_none] at h
      cases h
    | some y =>
      have e : kepR o (some x) w = some ⟨x.rank + y.rank, x.gaps + y.gaps, x.at_ ++ y.at_⟩ := by unfold kepR; rw [hf]
      rw [e] at h
      have := kep_more o P _ f h
      exact ⟨Nat.le_trans (Nat.le_add_right _ _) this.1, Nat.le_trans (Nat.le_add_right _ _) this.2⟩
/-- More words, no option more, no less cost. -/
theorem kep_app (o : List Bs) (ws P : List (List Bs)) (f : Fnd) (h : kepS o (ws ++ P) = some f) : ∃ g, kepS o ws = some g ∧ g.rank ≤ f.rank ∧ g.gaps ≤ f.gaps := by
  unfold kepS at h ⊢
  rw [List.foldl_append] at h
  cases hg : ws.foldl (kepR o) (some ⟨0, 0, []⟩) with
  | none => rw [hg, kep_none] at h; cases h
  | some g => rw [hg] at h; exact ⟨g, rfl, kep_more o P g f h⟩
theorem grd_word : ∀ (f : Nat) (o ws : List Bs) (i k : Nat), k < (grd f o ws i).length → o.getD ((grd f o ws i).getD k 0) [] = ws.getD k []
  | 0, _, _, _, k, h => by simp [grd] at h
  | f + 1, o, [], i, k, h => by rw [grd_nil] at h; simp at h
  | f + 1, o, c :: r, i, k, h => by
    rw [grd] at h ⊢
    split at h
    · rename_i hi
      rw [if_pos hi]
      split at h
      · rename_i hc
        rw [if_pos hc]
        cases k with
        | zero => simpa using hc
        | succ k =>
          rw [List.getD_cons_succ, List.getD_cons_succ]
          exact grd_word f o r (i + 1) k (by simpa using h)
      · rename_i hc
        rw [if_neg hc]
        exact grd_word f o (c :: r) (i + 1) k h
    · simp at h
theorem runN_getD (i n k : Nat) (hk : k < n) : (runN i n).getD k 0 = i + k := by
  unfold runN
  rw [List.getD_eq_getElem?_getD, List.getElem?_eq_getElem (by simpa using hk)]
  simp
/-- At the places stand the word's clusters. -/
theorem fnd_word {o wd : List Bs} {f : Fnd} (h : fndS o wd = some f) : f.at_.length = wd.length ∧ ∀ k, k < wd.length → o.getD (f.at_.getD k 0) [] = wd.getD k [] := by
  have run : ∀ i, isAt o wd i = true → (runN i wd.length).length = wd.length ∧ ∀ k, k < wd.length → o.getD ((runN i wd.length).getD k 0) [] = wd.getD k [] := by
    intro i hi
    unfold isAt at hi
    obtain ⟨h1, h2⟩ := of_decide_eq_true hi
    refine ⟨by simp [runN], fun k hk => ?_⟩
    rw [runN_getD i _ k hk]
    have e : wd.getD k [] = ((o.drop i).take wd.length).getD k [] := by rw [h2]
    rw [e, List.getD_eq_getElem?_getD, List.getD_eq_getElem?_getD, List.getElem?_take, if_pos hk, List.getElem?_drop]
  cases hb : besS o wd with
  | nil =>
    rw [fnd_nil hb] at h
    obtain ⟨i, hc, _, _⟩ := spr_inv o wd _ f h
    have hl := (chn_facts hc).1
    refine ⟨hl, fun k hk => ?_⟩
    unfold chnS at hc
    split at hc
    · simp only [Option.some.injEq] at hc
      rw [← hc]
      exact grd_word _ o wd i k (by rw [hc, hl]; exact hk)
    · cases hc
  | cons p r =>
    have hp : p ∈ besS o wd := by rw [hb]; simp
    unfold fndS at h
    rw [hb] at h
    simp only at h
    split at h
    · rename_i e
      cases h
      have := besS_iff.1 hp
      rw [e] at this
      exact run 0 this
    · split at h
      · rename_i i hi
        cases h
        have := List.mem_of_find?_eq_some hi
        rw [← hb] at this
        exact run i (besS_iff.1 this)
      · cases h
        exact run p (besS_iff.1 hp)
theorem inc_from {l : List Nat} (h : l.Pairwise (· < ·)) (i : Nat) : ∀ d, i + d < l.length → l.getD i 0 + d ≤ l.getD (i + d) 0
  | 0, _ => by simp
  | d + 1, hk => by
    have ih := inc_from h i d (by omega)
    have := List.pairwise_iff_getElem.1 h (i + d) (i + d + 1) (by omega) (by omega) (by omega)
    have e1 : l.getD (i + d) 0 = l[i + d] := by rw [List.getD_eq_getElem?_getD, List.getElem?_eq_getElem (by omega)]; rfl
    have e2 : l.getD (i + d + 1) 0 = l[i + d + 1] := by rw [List.getD_eq_getElem?_getD, List.getElem?_eq_getElem (by omega)]; rfl
    rw [← Nat.add_assoc i d 1]
    omega
/-- There are gaps just where others stand between. -/
theorem fnd_four {o wd : List Bs} {f : Fnd} (h : fndS o wd = some f) : f.rank = 4 ↔ 0 < f.gaps := by
  have hw := fnd_word h
  cases hb : besS o wd with
  | nil =>
    rw [fnd_nil hb] at h
    obtain ⟨i, hc, hg, hr⟩ := spr_inv o wd _ f h
    refine ⟨fun _ => ?_, fun _ => hr⟩
    obtain ⟨h1, h2, h3⟩ := chn_facts hc
    rcases Nat.eq_zero_or_pos f.gaps with q | q
    · exfalso
      have hwp : 0 < wd.length := List.length_pos_iff.2 (fun e => besS_nil o (by rw [← e]; exact hb))
      rw [hg] at q
      unfold gapN at q
      have hall : ∀ k, k < wd.length → f.at_.getD k 0 = f.at_.getD 0 0 + k := by
        intro k hk
        have a1 := inc_span h3 k (by omega)
        have a2 := inc_from h3 k (f.at_.length - 1 - k) (by omega)
        have a3 := inc_span h3 (f.at_.length - 1) (by omega)
        have e : k + (f.at_.length - 1 - k) = f.at_.length - 1 := by omega
        rw [e] at a2
        omega
      have hlast := (h2 (f.at_.getD (wd.length - 1) 0) (getD_mem (by omega))).2
      have hl2 := hall (wd.length - 1) (by omega)
      have hin : isAt o wd (f.at_.getD 0 0) = true := by
        unfold isAt
        have hwk : ∀ k, k < wd.length → o.getD (f.at_.getD 0 0 + k) [] = wd.getD k [] := fun k hk => by rw [← hall k hk]; exact hw.2 k hk
        generalize f.at_.getD 0 0 = z at hl2 hwk ⊢
        refine decide_eq_true ⟨by omega, ?_⟩
        refine List.ext_getElem (by rw [List.length_take, List.length_drop]; omega) (fun k g1 g2 => ?_)
        have := hwk k g2
        simp only [List.getD_eq_getElem?_getD] at this
        rw [List.getElem?_eq_getElem g2, List.getElem?_eq_getElem (by omega)] at this
        rw [List.getElem_take, List.getElem_drop]
        exact this
      have := besS_iff.2 hin
      rw [hb] at this
      cases this
    · exact q
  | cons p r =>
    unfold fndS at h
    rw [hb] at h
    simp only at h
    split at h
    · cases h
      constructor
      · intro q; simp only at q; split at q <;> omega
      · intro q; simp at q
    · split at h <;> cases h <;> constructor <;> intro q <;> simp at q
theorem filter_from : ∀ (n s : Nat) (l : List Nat), l.Pairwise (· < ·) → (∀ x ∈ l, s ≤ x ∧ x < s + n) → (List.range' s n).filter (fun i => l.contains i) = l
  | 0, s, l, _, h => by
    cases l with
    | nil => rfl
    | cons a t => have := h a (by simp); omega
  | n + 1, s, l, hp, h => by
    rw [List.range'_succ]
    cases l with
    | nil => simp
    | cons a t =>
      obtain ⟨p1, p2⟩ := List.pairwise_cons.1 hp
      by_cases e : a = s
      · subst e
        rw [List.filter_cons_of_pos (by simp)]
        have := filter_from n (a + 1) t p2 (fun x hx => by have := p1 x hx; have := h x (by simp [hx]); omega)
        congr 1
        rw [← this]
        refine List.filter_congr (fun x hx => ?_)
        rw [this]
        have h1 := (List.mem_range'_1.1 hx).1
        have : ¬ x = a := by omega
        simp [this]
      · have hs : ¬ s ∈ a :: t := fun q => by
          rcases List.mem_cons.1 q with q | q
          · exact e q.symm
          · have := p1 s q; have := h a (by simp); omega
        rw [List.filter_cons_of_neg (by simpa using hs)]
        exact filter_from n (s + 1) (a :: t) hp (fun x hx => by
          have h1 := h x hx
          have : x ≠ s := fun q => hs (by rw [← q]; exact hx)
          omega)
/-- The marks of one word are its places. -/
theorem mks_one {opt q : Bs} {wd : List Bs} {f : Fnd} (hw : wds q = [wd]) (hf : fndS (clS opt) wd = some f) : mksS opt q = f.at_ := by
  have hk : kepS (clS opt) (wds q) = some ⟨0 + f.rank, 0 + f.gaps, [] ++ f.at_⟩ := by
    rw [hw]
    unfold kepS
    rw [List.foldl_cons, List.foldl_nil]
    unfold kepR
    rw [hf]
  have hok := fnd_ok hf
  unfold mksS
  rw [hk]
  simp only [List.nil_append]
  rw [List.range_eq_range']
  exact filter_from _ 0 _ hok.inc (fun x hx => ⟨Nat.zero_le _, by have := hok.at_ x hx; omega⟩)
theorem kep_one {o : List Bs} {wd : List Bs} {f : Fnd} (h : kepS o [wd] = some f) : ∃ g, fndS o wd = some g ∧ f = ⟨g.rank, g.gaps, g.at_⟩ := by
  unfold kepS at h
  rw [List.foldl_cons, List.foldl_nil] at h
  unfold kepR at h
  simp only at h
  cases hf : fndS o wd with
  | none => rw [hf] at h; cases h
  | some g => rw [hf] at h; cases h; exact ⟨g, rfl, by simp⟩
/-- A text stands in itself by rank 0. -/
theorem rk_self (a : Bs) : ∃ l, rkS a a = some ⟨0, 0, l⟩ := by
  unfold rkS
  rw [st_zero st_same, if_pos rfl]
  exact ⟨_, rfl⟩
/-- A text that goes on behind a blank: rank 1. -/
theorem rk_x (a : Bs) : ∃ l, rkS (a ++ [32, 120]) a = some ⟨1, 0, l⟩ := by
  unfold rkS
  rw [cl_x, st_zero (by unfold isAt; rw [List.drop_zero, List.take_left]; simp), if_neg (by simp)]
  exact ⟨_, rfl⟩
end Go.Proofs.YtdehjofmangmbaaGreat
