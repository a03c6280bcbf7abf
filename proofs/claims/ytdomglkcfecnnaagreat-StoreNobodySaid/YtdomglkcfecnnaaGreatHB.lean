/- Walks: Cut. -/
import Derived.Test.YtdomglkcfecnnaaGreatHA
import Derived.WalkMore
namespace Go.Proofs.YtdomglkcfecnnaaGreat
open Go.RowKit Go.Shelf
attribute [local go_sem] Oper.semAt_some
def cutR (s : List Bs × Bs × Bool) (r : Int) : List Bs × Bs × Bool := if ctl r = true then s else addS s r
/-- The builder behind these runes. -/
def cutF (rs : List Int) : List Bs × Bs × Bool := rs.foldl cutR ([], [], false)
def endS (s : List Bs × Bs × Bool) : List Bs := if s.2.2 = true then s.1 ++ [s.2.1] else s.1
/-- The clusters of a text. -/
def cutS (l : Bs) : List Bs := endS (cutF ((itm l).map (·.2)))
theorem cutF_snoc (rs : List Int) (r : Int) : cutF (rs ++ [r]) = cutR (cutF rs) r := by simp [cutF]
theorem cutR_len (s : List Bs × Bs × Bool) (r : Int) (h : s.2.1.length ≤ 64) : (cutR s r).1.length ≤ s.1.length + 1 ∧ (cutR s r).2.1.length ≤ 64 := by
  have := rb_len r
  unfold cutR addS
  split
  · omega
  · split
    · split <;> simp <;> omega
    · split
      · rename_i hc
        simp
        omega
      · omega
theorem cutF_len (rs : List Int) : (cutF rs).1.length ≤ rs.length ∧ (cutF rs).2.1.length ≤ 64 := by
  have : ∀ (rs : List Int) (s : List Bs × Bs × Bool), s.2.1.length ≤ 64 → (rs.foldl cutR s).1.length ≤ s.1.length + rs.length ∧ (rs.foldl cutR s).2.1.length ≤ 64 := by
    intro rs
    induction rs with
    | nil => intro s h; exact ⟨by simp, h⟩
    | cons r rs ih =>
      intro s h
      obtain ⟨h1, h2⟩ := cutR_len s r h
      obtain ⟨h3, h4⟩ := ih _ h2
      simp only [List.foldl_cons, List.length_cons]
      exact ⟨by omega, h4⟩
  have h := this rs ([], [], false) (by simp)
  simpa [cutF] using h
theorem itmN_len : ∀ (f a : Nat) (b : Bs), (itmN f a b).length ≤ f
  | 0, _, _ => by simp [itmN]
  | f + 1, a, [] => by simp [itmN]
  | f + 1, a, c :: t => by
    have := itmN_len f (a + (stp (c :: t)).2) ((c :: t).drop (stp (c :: t)).2)
    simp only [itmN, List.length_cons]
    omega
theorem itm_len (l : Bs) : (itm l).length ≤ l.length := itmN_len _ _ _
theorem each_stops {p q cap : Nat} {L : Bs} {w1 : World} (hL : L.length ≤ 4611686018427387904) (hcap : L.length ≤ cap) (hp : w1.heap[p]? = some (.cells #[.slice (some ⟨q, 0, none⟩) L.length cap] 37 (0, 0))) (hq : BytesAt w1 q 0 L) (hql : q < w1.heap.size) :
    SeqStopsK Fence.wide 5 Tryz.prog 140 #[.pointer (some ⟨p, 0, none⟩)] encE (KeepP p q) (fun xs => xs = itm L) (fun pre => pre ≠ [] ∧ pre <+: itm L) (itm L).length w1 := fun l J Jx W hW hA _ hY h0 => by
  have hpl : p < w1.heap.size := (Array.getElem?_eq_some_iff.1 hp).1
  refine (each_in l p q cap L hL hcap W ((hW.block p hpl).trans hp) (hq.kept hql hW) (by have := hW.size; omega) J Jx hA ?_ h0).mono ?_
  · intro pre x W1 hJ hpr
    have hlt : pre.length < (itm L).length := by have := hpr.length_le; simp at this; omega
    exact hY pre x W1 hJ hlt
  · rintro e W' ⟨he, ⟨xs, hx, hJ⟩ | ⟨pre, hpre, hJ⟩⟩
    · exact ⟨he, .inl ⟨xs, hx, hJ⟩⟩
    · exact ⟨he, .inr ⟨pre, hpre, hJ⟩⟩
/-- What Cut's round keeps. -/
structure CI (w : World) (B b : Nat) (rs : List Int) (W : World) : Prop where
  bs : BSt B b (cutF rs).1 (cutF rs).2.1 (cutF rs).2.2 W
  bel : Below w.heap.size w W
theorem ci_own {α : Type} (w : World) (B b : Nat) (f : List α → List Int) (hB : w.heap.size ≤ B) : OwnFrom B (fun (pre : List α) W => CI w B b (f pre) W) := fun _ _ _ _ h hg hr => by
  have hk := cells_grown hg (fun r e => (hr r e).2)
  obtain ⟨vd, vn, h1, hd, hn⟩ := h.bs.ex
  have hrow : ∀ {e : TypeId} {z n : Nat} {v : Value} {xs : List Value} {A C : World}, CellsKept A C → A.ownsRow B e z v n xs → C.ownsRow B e z v n xs := fun hk ho => by
    refine ⟨ho.1, ?_⟩
    rcases ho.2 with h2 | ⟨g, cap, cur, hv, hb, hg, hr⟩
    · exact .inl h2
    · exact .inr ⟨g, cap, cur, hv, hb, (hk.2 _ _ hg rfl).trans hg, hr⟩
  exact ⟨⟨⟨vd, vn, (hk.2 _ _ h1 rfl).trans h1, hrow hk hd, hrow hk hn⟩, ⟨h.bs.lt.1, Nat.le_trans h.bs.lt.2 hg.size⟩, h.bs.op⟩, h.bel.grown hg h.bel.size (fun k e => by have := (hr k e).1; omega)⟩
theorem wendS (B b : Nat) (s : List Bs × Bs × Bool) (hDl : s.1.length ≤ 1000000) (w : World) (h : BSt B b s.1 s.2.1 s.2.2 w) : Calls Tryz.prog 98 #[.pointer (some ⟨b, 0, none⟩)] w fun e w' => e = .returned (.tuple #[]) ∧ BSt B b (endS s) [] false w' ∧ Stay b B w w' := by
  obtain ⟨D, N, o⟩ := s
  unfold endS
  cases o
  · exact wend0 B b D N w h
  · exact wend1 B b D N hDl w h
theorem row_lower {w : World} {b b' : Nat} {e : TypeId} {z n : Nat} {v : Value} {xs : List Value} (h : w.ownsRow b e z v n xs) (hb : b' ≤ b) : w.ownsRow b' e z v n xs := by
  refine ⟨h.1, ?_⟩
  rcases h.2 with h2 | ⟨g, cap, cur, hv, hg, hr⟩
  · exact .inl h2
  · exact .inr ⟨g, cap, cur, hv, Nat.le_trans hb hg, hr⟩
def CutEnd (l : Bs) (w : World) (e : Ending) (w' : World) : Prop := ∃ v, e = .returned v ∧ w'.ownsRow w.heap.size 9 1 v (cutS l).length (strs (cutS l)) ∧ Below w.heap.size w w'
set_option maxRecDepth 100000 in
set_option maxHeartbeats 4000000 in
theorem wcutS (l : Bs) (hl : l.length ≤ 900000) (w : World) : Calls Tryz.prog 80 #[.string (tx l)] w (CutEnd l w) := by
  have HALL := Lib.hid (fun W => wall l W)
  unfold AllAt at HALL
  have HLL := Lib.hid hl
  obtain ⟨T, hT⟩ : ∃ T, T = tx l := ⟨_, rfl⟩
  rw [← hT] at HALL ⊢
  clear hT
  refine (callsIn_wide (n := 6)).1 ?_
  refine callsIn_of_wp_marks Tryz.func80 rfl trivial ?_ rfl
  simp only [Tryz.ntmps80, List.size_toArray, List.length_cons, List.length_nil, Nat.reduceAdd, Nat.reduceSub, Array.replicate_succ, Array.replicate_zero, List.push_toArray, List.append_toArray, List.nil_append, List.cons_append]
  refine wpIn_wide.2 ?_
  go_wp2
  go_step3
  go_wp2
  go_step3
  go_wp2_with (first | (go_at_call 95; fail))
  go_at_call 95
  refine (HALL.out _).mono ?_
  rintro e w1 ⟨p, q, cap, rfl, hp, hcap, hq, hql, hpg, hqg, hb⟩
  have H1 : Hid (CI w w1.heap.size w.heap.size [] w1) := by
    have h0 := heap_alloc_new w (.cells #[.slice none 0 0, .slice none 0 0, .bool false] 173)
    have hb0 : Below w.heap.size w w1 := ((Below.refl _ _).alloc (Nat.le_refl _) _).trans (below_le hb (by simp))
    have hsz := hb.size
    simp at hsz
    exact Lib.hid ⟨⟨⟨.slice none 0 0, .slice none 0 0, (hb.block _ (by simp)).trans h0, World.ownsRow_nil _ _ _ _, World.ownsRow_nil _ _ _ _⟩, ⟨by omega, Nat.le_refl _⟩, fun h => by cases h⟩, hb0⟩
  go_wp2
  have hpl : p < w1.heap.size := (Array.getElem?_eq_some_iff.1 hp).1
  have hpb : p ≠ w.heap.size := by simp at hpg; omega
  have hqb : q ≠ w.heap.size := by simp at hqg; omega
  have HPQ := Lib.hid (And.intro (And.intro hpl hql) (And.intro hpb hqb))
  have HST := Lib.hid (each_stops (L := l) (by omega) hcap hp hq hql)
  clear hp hq hcap hpg hqg hb hpl hql hpb hqb
  refine (wpIn_wide (n := 6)).1 ?_
  refine wpIn_rangeFunc_ownH rfl (by omega) (gf := 140) (lb := #[.pointer (some ⟨p, 0, none⟩)]) (by simp [go_sem]) trivial (enters_of Tryz.func140 (by kernel_rfl) rfl)
    HST.out KeepP.trans (keepP_b HPQ.out.1.1 HPQ.out.1.2) (Below.refl _ _) (fun _ => rfl)
    (fun (pre : List (Nat × Int)) W => CI w w1.heap.size w.heap.size (pre.map (·.2)) W)
    (fun _ _ _ => False)
    (ci_own w _ _ (fun (pre : List (Nat × Int)) => pre.map (·.2)) H1.out.bel.size)
    (fun _ _ _ _ _ hs _ _ => hs)
    H1.out
    (fun x a' _ => a' = { tmps := #[.string T, undef, .slice none 0 0, .pointer (some ⟨w.heap.size, 0, none⟩), undef, .int .i32 x.2, .string T, .func (.func 140) #[] #[.pointer (some ⟨p, 0, none⟩)], .int .i64 x.1, .int .i32 x.2, undef, undef, undef, undef, undef, undef, undef], defers := [] })
    (fun _ _ _ _ _ _ h _ _ => h) ?assign ?body ?done ?stop
  case assign =>
    intro l' pre x W K hI hK
    unfold encE
    have H := Lib.hid hK
    clear hK
    gi_wp2
    exact H.out _ _ (keepsFrom_below (Below.refl _ _)) (KeepP.refl _ _ _) hI rfl
  case body =>
    rintro l' pre x a' W hl' ⟨rr, hrr⟩ hI rfl hlt
    have HI := Lib.hid hI
    have hln := itm_len l
    have hbd := cutF_len (pre.map (·.2))
    rw [List.length_map] at hbd
    have HAD := Lib.hid (fun V (hV : BSt w1.heap.size w.heap.size _ _ _ V) => wadd w1.heap.size w.heap.size (cutF (pre.map (·.2))) x.2 (by have := HLL.out; omega) (by omega) V hV)
    have HCT := Lib.hid (wctl x.2)
    have HSN : Hid (cutF ((pre ++ [x]).map (·.2)) = if ctl x.2 = true then cutF (pre.map (·.2)) else addS (cutF (pre.map (·.2))) x.2) := Lib.hid (by rw [List.map_append, List.map_cons, List.map_nil, cutF_snoc]; rfl)
    obtain ⟨C, hC⟩ : ∃ C, C = ctl x.2 := ⟨_, rfl⟩
    rw [← hC] at HCT HSN
    clear hC hI hrr hlt hln hbd
    gi_wp2_with (first | (refine ⟨trivial, ?_⟩; gi_at_call 96; fail))
    refine ⟨trivial, ?_⟩
    gi_at_call 96
    refine (CallsIn.inRound l' (callsIn_wide.2 (HCT.out _))).mono ?_
    rintro e w2 ⟨rfl, rfl⟩
    cases C
    · gi_wp2_with (first | (refine ⟨trivial, ?_⟩; gi_at_call 97; fail))
      refine ⟨trivial, ?_⟩
      gi_at_call 97
      refine (CallsIn.inRound l' (callsIn_wide.2 (HAD.out _ HI.out.bs))).mono ?_
      rintro e w3 ⟨rfl, hB3, hS3⟩
      have H3 : Hid (CI w w1.heap.size w.heap.size ((pre ++ [x]).map (·.2)) w3) := Lib.hid ⟨by rw [HSN.out]; exact hB3, HI.out.bel.trans (hS3.below (by have := H1.out.bs.lt; omega))⟩
      have HK3 : Hid (KeepsFrom w1.heap.size W w3 ∧ KeepP p q W w3) := Lib.hid ⟨⟨hS3.size, fun j o _ ho hc => hS3.same j o ho hc⟩, ⟨hS3.size, hS3.block p HPQ.out.1.1 HPQ.out.2.1, hS3.block q HPQ.out.1.2 HPQ.out.2.2⟩⟩
      clear hB3 hS3
      gi_wp2
      exact ⟨HK3.out.1, HK3.out.2, H3.out⟩
    · have H3 : Hid (CI w w1.heap.size w.heap.size ((pre ++ [x]).map (·.2)) W) := Lib.hid ⟨by rw [HSN.out]; exact HI.out.bs, HI.out.bel⟩
      gi_wp2
      exact ⟨keepsFrom_below (Below.refl _ _), KeepP.refl _ _ _, H3.out⟩
  case done =>
    rintro D xs W hD hS hI hK
    subst hS
    have hln := itm_len l
    have hbd := cutF_len ((itm l).map (·.2))
    rw [List.length_map] at hbd
    have HEN := Lib.hid (wendS w1.heap.size w.heap.size (cutF ((itm l).map (·.2))) (by omega) W hI.bs)
    have HBE := Lib.hid hI.bel
    have HK := Lib.hid hK
    have HD := Lib.hid hD
    have HSZ := Lib.hid (show w.heap.size ≤ w1.heap.size from by have := H1.out.bs.lt; omega)
    clear hI hK hD hln hbd
    go_wp2_with (first | (go_at_call 98; fail))
    go_at_call 98
    refine HEN.out.mono ?_
    rintro e w4 ⟨rfl, hB4, hS4⟩
    obtain ⟨vd, vn, hb, hd, hn⟩ := hB4.ex
    have HDD := Lib.hid hd
    have HB4 := Lib.hid (HBE.out.trans (hS4.below (by have := hB4.lt; omega)))
    have HK4 : Hid (w4.heap[D]? = some (.deferred (some []))) := Lib.hid (hS4.same D _ HK.out rfl)
    have c0 : w4.cell? ⟨w.heap.size, 0, none⟩ = some vd := by simp [World.cell?, hb]
    clear hB4 hS4 hb hd hn
    go_wp2
    rw [Exit.noGoto_ret]
    refine ⟨by simp, .inl ⟨_, _, rfl, run_takeDeferred HK4.out, ?_⟩⟩
    refine ⟨_, results_tmp rfl _ _ _, vd, rfl, row_kept (row_lower HDD.out HSZ.out) (fun j hj => ?_), HB4.out.trans (belowK_b (w := w) (Nat.le_refl _) w4 D _ _ (by have := HD.out; have := HSZ.out; omega) HK4.out rfl rfl)⟩
    refine World.putObj_heap_other (fun e => ?_)
    subst e
    rcases HDD.out.2 with ⟨hv, _⟩ | ⟨g, cap, cur, hv, _, hg, _⟩
    · rw [hv] at hj; cases hj
    · rw [hv] at hj; cases hj; rw [HK4.out] at hg; cases hg
  case stop =>
    rintro D c pre W _ _ h _
    exact h.elim
end Go.Proofs.YtdomglkcfecnnaaGreat
