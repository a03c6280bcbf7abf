/- Own texts, merged: HB, HC, SB, SC. -/
import Derived.WalkMore
import Derived.Test.YtfalcmbjjlgoaaaGreatDoorMB45
import Derived.Test.YtfalcmbjjlgoaaaGreatDoorMB47
/- Walks: Cut. -/
namespace Go.Proofs.YtfalcmbjjlgoaaaGreatDoor
open Go.RowKit Go.Shelf
attribute [local go_sem] Oper.semAt_some
def cutR (s : List Bs × Bs × Bool) (r : Int) : List Bs × Bs × Bool := if ctl r = true then s else addS s r
/-- The builder behind these runes. -/
def cutF (rs : List Int) : List Bs × Bs × Bool := rs.foldl cutR ([], [], false)
def endS (s : List Bs × Bs × Bool) : List Bs := if s.2.2 = true then s.1 ++ [s.2.1] else s.1
/-- The clusters of a text. -/
def cutS (l : Bs) : List Bs := endS (cutF ((itm l).map (·.2)))
theorem cutF_snoc (rs : List Int) (r : Int) : cutF (rs ++ [r]) = cutR (cutF rs) r := by simp [cutF]
theorem cutR_len (s : List Bs × Bs × Bool) (r : Int) (h : s.2.1.length ≤ 64) : (cutR s r).1.length ≤ s.1.length + 1 ∧ (cutR s r).2.1.length ≤ 64 := by
  have := rb_len r
  unfold cutR addS
  split
  · omega
  · split
    · split <;> simp <;> omega
    · split
      · rename_i hc
        simp
        omega
      · omega
theorem cutF_len (rs : List Int) : (cutF rs).1.length ≤ rs.length ∧ (cutF rs).2.1.length ≤ 64 := by
  have : ∀ (rs : List Int) (s : List Bs × Bs × Bool), s.2.1.length ≤ 64 → (rs.foldl cutR s).1.length ≤ s.1.length + rs.length ∧ (rs.foldl cutR s).2.1.length ≤ 64 := by
    intro rs
    induction rs with
    | nil => intro s h; exact ⟨by simp, h⟩
    | cons r rs ih =>
      intro s h
      obtain ⟨h1, h2⟩ := cutR_len s r h
      obtain ⟨h3, h4⟩ := ih _ h2
      simp only [List.foldl_cons, List.length_cons]
      exact ⟨by omega, h4⟩
  have h := this rs ([], [], false) (by simp)
  simpa [cutF] using h
theorem itmN_len : ∀ (f a : Nat) (b : Bs), (itmN f a b).length ≤ f
  | 0, _, _ => by simp [itmN]
  | f + 1, a, [] => by simp [itmN]
  | f + 1, a, c :: t => by
    have := itmN_len f (a + (stp (c :: t)).2) ((c :: t).drop (stp (c :: t)).2)
    simp only [itmN, List.length_cons]
    omega
theorem itm_len (l : Bs) : (itm l).length ≤ l.length := itmN_len _ _ _
theorem each_stops {p q cap : Nat} {L : Bs} {w1 : World} (hL : L.length ≤ 4611686018427387904) (hcap : L.length ≤ cap) (hp : w1.heap[p]? = some (.cells #[.slice (some ⟨q, 0, none⟩) L.length cap] 83 (0, 0))) (hq : BytesAt w1 q 0 L) (hql : q < w1.heap.size) :
    SeqStopsK Fence.wide 5 Tryz.prog 124 #[.pointer (some ⟨p, 0, none⟩)] encE (KeepP p q) (fun xs => xs = itm L) (fun pre => pre ≠ [] ∧ pre <+: itm L) (itm L).length w1 := fun l J Jx W hW hA _ hY h0 => by
  have hpl : p < w1.heap.size := (Array.getElem?_eq_some_iff.1 hp).1
  refine (each_in l p q cap L hL hcap W ((hW.block p hpl).trans hp) (hq.kept hql hW) (by have := hW.size; omega) J Jx hA ?_ h0).mono ?_
  · intro pre x W1 hJ hpr
    have hlt : pre.length < (itm L).length := by have := hpr.length_le; simp at this; omega
    exact hY pre x W1 hJ hlt
  · rintro e W' ⟨he, ⟨xs, hx, hJ⟩ | ⟨pre, hpre, hJ⟩⟩
    · exact ⟨he, .inl ⟨xs, hx, hJ⟩⟩
    · exact ⟨he, .inr ⟨pre, hpre, hJ⟩⟩
/-- What Cut's round keeps. -/
structure CI (w : World) (B b : Nat) (rs : List Int) (W : World) : Prop where
  bs : BSt B b (cutF rs).1 (cutF rs).2.1 (cutF rs).2.2 W
  bel : Below w.heap.size w W
theorem ci_own {α : Type} (w : World) (B b : Nat) (f : List α → List Int) (hB : w.heap.size ≤ B) : OwnFrom B (fun (pre : List α) W => CI w B b (f pre) W) := fun _ _ _ _ h hg hr => by
  have hk := cells_grown hg (fun r e => (hr r e).2)
  obtain ⟨vd, vn, h1, hd, hn⟩ := h.bs.ex
  have hrow : ∀ {e : TypeId} {z n : Nat} {v : Value} {xs : List Value} {A C : World}, CellsKept A C → A.ownsRow B e z v n xs → C.ownsRow B e z v n xs := fun hk ho => by
    refine ⟨ho.1, ?_⟩
    rcases ho.2 with h2 | ⟨g, cap, cur, hv, hb, hg, hr⟩
    · exact .inl h2
    · exact .inr ⟨g, cap, cur, hv, hb, (hk.2 _ _ hg rfl).trans hg, hr⟩
  exact ⟨⟨⟨vd, vn, (hk.2 _ _ h1 rfl).trans h1, hrow hk hd, hrow hk hn⟩, ⟨h.bs.lt.1, Nat.le_trans h.bs.lt.2 hg.size⟩, h.bs.op⟩, h.bel.grown hg h.bel.size (fun k e => by have := (hr k e).1; omega)⟩
theorem wendS (B b : Nat) (s : List Bs × Bs × Bool) (hDl : s.1.length ≤ 1000000) (w : World) (h : BSt B b s.1 s.2.1 s.2.2 w) : Calls Tryz.prog 109 #[.pointer (some ⟨b, 0, none⟩)] w fun e w' => e = .returned (.tuple #[]) ∧ BSt B b (endS s) [] false w' ∧ Stay b B w w' := by
  obtain ⟨D, N, o⟩ := s
  unfold endS
  cases o
  · exact wend0 B b D N w h
  · exact wend1 B b D N hDl w h
theorem row_lower {w : World} {b b' : Nat} {e : TypeId} {z n : Nat} {v : Value} {xs : List Value} (h : w.ownsRow b e z v n xs) (hb : b' ≤ b) : w.ownsRow b' e z v n xs := by
  refine ⟨h.1, ?_⟩
  rcases h.2 with h2 | ⟨g, cap, cur, hv, hg, hr⟩
  · exact .inl h2
  · exact .inr ⟨g, cap, cur, hv, Nat.le_trans hb hg, hr⟩
def CutEnd (l : Bs) (w : World) (e : Ending) (w' : World) : Prop := ∃ v, e = .returned v ∧ w'.ownsRow w.heap.size 9 1 v (cutS l).length (strs (cutS l)) ∧ Below w.heap.size w w'
set_option maxRecDepth 100000 in
set_option maxHeartbeats 4000000 in
theorem wcutS (l : Bs) (hl : l.length ≤ 900000) (w : World) : Calls Tryz.prog 97 #[.string (tx l)] w (CutEnd l w) := by
  have HALL := Lib.hid (fun W => wall l W)
  unfold AllAt at HALL
  have HLL := Lib.hid hl
  obtain ⟨T, hT⟩ : ∃ T, T = tx l := ⟨_, rfl⟩
  rw [← hT] at HALL ⊢
  clear hT
  refine (callsIn_wide (n := 6)).1 ?_
  refine callsIn_of_wp_marks Tryz.func97 rfl trivial ?_ rfl
  simp only [Tryz.ntmps97, List.size_toArray, List.length_cons, List.length_nil, Nat.reduceAdd, Nat.reduceSub, Array.replicate_succ, Array.replicate_zero, List.push_toArray, List.append_toArray, List.nil_append, List.cons_append]
  refine wpIn_wide.2 ?_
  go_wp2
  go_step3
  go_wp2
  go_step3
  go_wp2_with (first | (go_at_call 106; fail))
  go_at_call 106
  refine (HALL.out _).mono ?_
  rintro e w1 ⟨p, q, cap, rfl, hp, hcap, hq, hql, hpg, hqg, hb⟩
  have H1 : Hid (CI w w1.heap.size w.heap.size [] w1) := by
    have h0 := heap_alloc_new w (.cells #[.slice none 0 0, .slice none 0 0, .bool false] 126)
    have hb0 : Below w.heap.size w w1 := ((Below.refl _ _).alloc (Nat.le_refl _) _).trans (below_le hb (by simp))
    have hsz := hb.size
    simp at hsz
    exact Lib.hid ⟨⟨⟨.slice none 0 0, .slice none 0 0, (hb.block _ (by simp)).trans h0, World.ownsRow_nil _ _ _ _, World.ownsRow_nil _ _ _ _⟩, ⟨by omega, Nat.le_refl _⟩, fun h => by cases h⟩, hb0⟩
  go_wp2
  have hpl : p < w1.heap.size := (Array.getElem?_eq_some_iff.1 hp).1
  have hpb : p ≠ w.heap.size := by simp at hpg; omega
  have hqb : q ≠ w.heap.size := by simp at hqg; omega
  have HPQ := Lib.hid (And.intro (And.intro hpl hql) (And.intro hpb hqb))
  have HST := Lib.hid (each_stops (L := l) (by omega) hcap hp hq hql)
  clear hp hq hcap hpg hqg hb hpl hql hpb hqb
  refine (wpIn_wide (n := 6)).1 ?_
  refine wpIn_rangeFunc_ownH rfl (by omega) (gf := 124) (lb := #[.pointer (some ⟨p, 0, none⟩)]) (by simp [go_sem]) trivial (enters_of Tryz.func124 (by kernel_rfl) rfl)
    HST.out KeepP.trans (keepP_b HPQ.out.1.1 HPQ.out.1.2) (Below.refl _ _) (fun _ => rfl)
    (fun (pre : List (Nat × Int)) W => CI w w1.heap.size w.heap.size (pre.map (·.2)) W)
    (fun _ _ _ => False)
    (ci_own w _ _ (fun (pre : List (Nat × Int)) => pre.map (·.2)) H1.out.bel.size)
    (fun _ _ _ _ _ hs _ _ => hs)
    H1.out
    (fun x a' _ => a' = { tmps := #[.string T, undef, .slice none 0 0, .pointer (some ⟨w.heap.size, 0, none⟩), undef, .int .i32 x.2, .string T, .func (.func 124) #[] #[.pointer (some ⟨p, 0, none⟩)], .int .i64 x.1, .int .i32 x.2, undef, undef, undef, undef, undef, undef, undef], defers := [] })
    (fun _ _ _ _ _ _ h _ _ => h) ?assign ?body ?done ?stop
  case assign =>
    intro l' pre x W K hI hK
    unfold encE
    have H := Lib.hid hK
    clear hK
    gi_wp2
    exact H.out _ _ (keepsFrom_below (Below.refl _ _)) (KeepP.refl _ _ _) hI rfl
  case body =>
    rintro l' pre x a' W hl' ⟨rr, hrr⟩ hI rfl hlt
    have HI := Lib.hid hI
    have hln := itm_len l
    have hbd := cutF_len (pre.map (·.2))
    rw [List.length_map] at hbd
    have HAD := Lib.hid (fun V (hV : BSt w1.heap.size w.heap.size _ _ _ V) => wadd w1.heap.size w.heap.size (cutF (pre.map (·.2))) x.2 (by have := HLL.out; omega) (by omega) V hV)
    have HCT := Lib.hid (wctl x.2)
    have HSN : Hid (cutF ((pre ++ [x]).map (·.2)) = if ctl x.2 = true then cutF (pre.map (·.2)) else addS (cutF (pre.map (·.2))) x.2) := Lib.hid (by rw [List.map_append, List.map_cons, List.map_nil, cutF_snoc]; rfl)
    obtain ⟨C, hC⟩ : ∃ C, C = ctl x.2 := ⟨_, rfl⟩
    rw [← hC] at HCT HSN
    clear hC hI hrr hlt hln hbd
    gi_wp2_with (first | (refine ⟨trivial, ?_⟩; gi_at_call 107; fail))
    refine ⟨trivial, ?_⟩
    gi_at_call 107
    refine (CallsIn.inRound l' (callsIn_wide.2 (HCT.out _))).mono ?_
    rintro e w2 ⟨rfl, rfl⟩
    cases C
    · gi_wp2_with (first | (refine ⟨trivial, ?_⟩; gi_at_call 108; fail))
      refine ⟨trivial, ?_⟩
      gi_at_call 108
      refine (CallsIn.inRound l' (callsIn_wide.2 (HAD.out _ HI.out.bs))).mono ?_
      rintro e w3 ⟨rfl, hB3, hS3⟩
      have H3 : Hid (CI w w1.heap.size w.heap.size ((pre ++ [x]).map (·.2)) w3) := Lib.hid ⟨by rw [HSN.out]; exact hB3, HI.out.bel.trans (hS3.below (by have := H1.out.bs.lt; omega))⟩
      have HK3 : Hid (KeepsFrom w1.heap.size W w3 ∧ KeepP p q W w3) := Lib.hid ⟨⟨hS3.size, fun j o _ ho hc => hS3.same j o ho hc⟩, ⟨hS3.size, hS3.block p HPQ.out.1.1 HPQ.out.2.1, hS3.block q HPQ.out.1.2 HPQ.out.2.2⟩⟩
      clear hB3 hS3
      gi_wp2
      exact ⟨HK3.out.1, HK3.out.2, H3.out⟩
    · have H3 : Hid (CI w w1.heap.size w.heap.size ((pre ++ [x]).map (·.2)) W) := Lib.hid ⟨by rw [HSN.out]; exact HI.out.bs, HI.out.bel⟩
      gi_wp2
      exact ⟨keepsFrom_below (Below.refl _ _), KeepP.refl _ _ _, H3.out⟩
  case done =>
    rintro D xs W hD hS hI hK
    subst hS
    have hln := itm_len l
    have hbd := cutF_len ((itm l).map (·.2))
    rw [List.length_map] at hbd
    have HEN := Lib.hid (wendS w1.heap.size w.heap.size (cutF ((itm l).map (·.2))) (by omega) W hI.bs)
    have HBE := Lib.hid hI.bel
    have HK := Lib.hid hK
    have HD := Lib.hid hD
    have HSZ := Lib.hid (show w.heap.size ≤ w1.heap.size from by have := H1.out.bs.lt; omega)
    clear hI hK hD hln hbd
    go_wp2_with (first | (go_at_call 109; fail))
    go_at_call 109
    refine HEN.out.mono ?_
    rintro e w4 ⟨rfl, hB4, hS4⟩
    obtain ⟨vd, vn, hb, hd, hn⟩ := hB4.ex
    have HDD := Lib.hid hd
    have HB4 := Lib.hid (HBE.out.trans (hS4.below (by have := hB4.lt; omega)))
    have HK4 : Hid (w4.heap[D]? = some (.deferred (some []))) := Lib.hid (hS4.same D _ HK.out rfl)
    have c0 : w4.cell? ⟨w.heap.size, 0, none⟩ = some vd := by simp [World.cell?, hb]
    clear hB4 hS4 hb hd hn
    go_wp2
    rw [Exit.noGoto_ret]
    refine ⟨by simp, .inl ⟨_, _, rfl, run_takeDeferred HK4.out, ?_⟩⟩
    refine ⟨_, results_tmp rfl _ _ _, vd, rfl, row_kept (row_lower HDD.out HSZ.out) (fun j hj => ?_), HB4.out.trans (belowK_b (w := w) (Nat.le_refl _) w4 D _ _ (by have := HD.out; have := HSZ.out; omega) HK4.out rfl rfl)⟩
    refine World.putObj_heap_other (fun e => ?_)
    subst e
    rcases HDD.out.2 with ⟨hv, _⟩ | ⟨g, cap, cur, hv, _, hg, _⟩
    · rw [hv] at hj; cases hj
    · rw [hv] at hj; cases hj; rw [HK4.out] at hg; cases hg
  case stop =>
    rintro D c pre W _ _ h _
    exact h.elim
end Go.Proofs.YtfalcmbjjlgoaaaGreatDoor
/- Walks: Clean, Count. -/
namespace Go.Proofs.YtfalcmbjjlgoaaaGreatDoor
open Go.RowKit Go.Shelf
def Short (s : List Bs × Bs × Bool) : Prop := (∀ c ∈ s.1, c.length ≤ 64) ∧ s.2.1.length ≤ 64
theorem cutR_short (s : List Bs × Bs × Bool) (r : Int) (h : Short s) : Short (cutR s r) := by
  obtain ⟨h1, h2⟩ := h
  have := rb_len r
  refine ⟨?_, (cutR_len s r h2).2⟩
  unfold cutR addS
  split
  · exact h1
  · split
    · split
      · intro c hc
        rcases List.mem_append.1 hc with q | q
        · exact h1 c q
        · simp at q; rw [q]; exact h2
      · exact h1
    · split
      · exact h1
      · exact h1
theorem cutS_short (l : Bs) : ∀ c ∈ cutS l, c.length ≤ 64 := by
  have h : ∀ (rs : List Int) (s : List Bs × Bs × Bool), Short s → Short (rs.foldl cutR s) := by
    intro rs
    induction rs with
    | nil => intro s h; exact h
    | cons r rs ih => intro s h; exact ih _ (cutR_short s r h)
  obtain ⟨h1, h2⟩ := h ((itm l).map (·.2)) ([], [], false) ⟨by simp, by simp⟩
  unfold cutS endS cutF
  intro c hc
  split at hc
  · rcases List.mem_append.1 hc with q | q
    · exact h1 c q
    · simp at q; rw [q]; exact h2
  · exact h1 c hc
theorem cutS_len (l : Bs) : (cutS l).length ≤ l.length + 1 := by
  have h1 := (cutF_len ((itm l).map (·.2))).1
  rw [List.length_map] at h1
  have h2 := itm_len l
  unfold cutS endS
  split
  · simp; omega
  · omega
theorem flat_short (ws : List Bs) (h : ∀ c ∈ ws, c.length ≤ 64) : ws.flatten.length ≤ 64 * ws.length := by
  induction ws with
  | nil => simp
  | cons a t ih =>
    have h1 := h a (by simp)
    have h2 := ih (fun c hc => h c (by simp [hc]))
    simp only [List.flatten_cons, List.length_append, List.length_cons]
    omega
/-- A text without its controls and stray marks. -/
def cleanS (l : Bs) : Bs := (cutS l).flatten
theorem cleanS_len (l : Bs) : (cleanS l).length ≤ 64 * (l.length + 1) := by
  have h1 := flat_short _ (cutS_short l)
  have h2 := cutS_len l
  unfold cleanS
  omega
theorem wcount (l : Bs) (hl : l.length ≤ 900000) (w : World) : Calls Tryz.prog 82 #[.string (tx l)] w fun e w' => e = .returned (.int .i64 (cutS l).length) ∧ Below w.heap.size w w' := by
  have HC := Lib.hid (fun W => wcutS l hl W)
  unfold CutEnd at HC
  obtain ⟨T, hT⟩ : ∃ T, T = tx l := ⟨_, rfl⟩
  rw [← hT] at HC ⊢
  clear hT
  go_enter Tryz.func82, Tryz.ntmps82
  go_wp2_with (first | (go_at_call 97; fail))
  go_at_call 97
  refine (HC.out _).mono ?_
  rintro e w1 ⟨v, rfl, hv, hb⟩
  obtain ⟨x, c, rfl⟩ := ownsRow_is hv
  have HB := Lib.hid hb
  clear hv hb
  go_wp2
  go_ret
  exact ⟨rfl, HB.out⟩
end Go.Proofs.YtfalcmbjjlgoaaaGreatDoor
/- Walk: eval: its start, leaves. -/
namespace Go.Proofs.YtfalcmbjjlgoaaaGreatDoor
open Go.RowKit Go.Shelf Ieee
attribute [local go_sem] run_store_float
/-- How many clusters a text has. -/
def clN (s : Bs) : Nat := (cutS s).length
theorem takes_12 {op : Bs} {k : Nat} (h : takesT op = some k) (h0 : op ≠ wnum) (h1 : op ≠ wtext) (h2 : op ≠ wname) : (k = 1 ∧ (op = wnot ∨ op = wneg ∨ op = wabs ∨ op = wlen)) ∨ (k = 2 ∧ op ≠ wnot ∧ op ≠ wneg ∧ op ≠ wabs ∧ op ≠ wlen) := by
  unfold takesT at h
  rw [if_neg (fun e => by rcases e with e | e | e; exact h0 e; exact h1 e; exact h2 e)] at h
  by_cases q : op = wnot ∨ op = wneg ∨ op = wlen ∨ op = wabs
  · rw [if_pos q] at h
    cases h
    rcases q with q | q | q | q
    · exact .inl ⟨rfl, .inl q⟩
    · exact .inl ⟨rfl, .inr (.inl q)⟩
    · exact .inl ⟨rfl, .inr (.inr (.inr q))⟩
    · exact .inl ⟨rfl, .inr (.inr (.inl q))⟩
  · rw [if_neg q] at h
    split at h
    · cases h
      exact .inr ⟨rfl, fun e => q (.inl e), fun e => q (.inr (.inl e)), fun e => q (.inr (.inr (.inr e))), fun e => q (.inr (.inr (.inl e)))⟩
    · cases h
/-- What eval holds: the node, its result's variable. -/
structure EI (w : World) (o : ByteArray) (fn : Nat) (s : ByteArray) (x : Option Addr) (l c : Nat) (m : Int) (W : World) : Prop where
  node : NB W w.heap.size (.agg #[.string o, .float .f64 fn, .string s, .slice x l c])
  r : VB W (w.heap.size + 1) (.int .i64 0) (.float .f64 0) (.string ⟨#[]⟩) (.bool false)
  bel : Below w.heap.size w W
  mx : MaxLn m W
theorem EI.start {w : World} {m : Int} (hm : MaxLn m w) (o : ByteArray) (fn : Nat) (s : ByteArray) (x : Option Addr) (l c : Nat) :
    EI w o fn s x l c m ((w.alloc (.cells #[.string o, .float .f64 fn, .string s, .slice x l c] 25)).alloc (.cells #[.int .i64 0, .float .f64 0, .string ⟨#[]⟩, .bool false] 51)) := by
  have h1 : NB (w.alloc (.cells #[.string o, .float .f64 fn, .string s, .slice x l c] 25)) w.heap.size (.agg #[.string o, .float .f64 fn, .string s, .slice x l c]) := ⟨_, _, _, _, rfl, heap_alloc_new _ _⟩
  have h2 : VB ((w.alloc (.cells #[.string o, .float .f64 fn, .string s, .slice x l c] 25)).alloc (.cells #[.int .i64 0, .float .f64 0, .string ⟨#[]⟩, .bool false] 51)) (w.heap.size + 1) (.int .i64 0) (.float .f64 0) (.string ⟨#[]⟩) (.bool false) := by
    have := heap_alloc_new (w.alloc (.cells #[.string o, .float .f64 fn, .string s, .slice x l c] 25)) (.cells #[.int .i64 0, .float .f64 0, .string ⟨#[]⟩, .bool false] 51)
    simpa [VB] using this
  have hb : Below w.heap.size w ((w.alloc (.cells #[.string o, .float .f64 fn, .string s, .slice x l c] 25)).alloc (.cells #[.int .i64 0, .float .f64 0, .string ⟨#[]⟩, .bool false] 51)) := ((Below.refl _ _).alloc (Nat.le_refl _) _).alloc (by simp) _
  exact ⟨h1.below ((Below.refl _ _).alloc (Nat.le_refl _) _), h2, hb, hm.below hb⟩
theorem EI.below {w : World} {o : ByteArray} {fn : Nat} {s : ByteArray} {x : Option Addr} {l c : Nat} {m : Int} {W W' : World} (h : EI w o fn s x l c m W) (hb : Below W.heap.size W W') : EI w o fn s x l c m W' :=
  ⟨h.node.below hb, h.r.below hb, h.bel.trans (below_le hb h.bel.size), h.mx.below hb⟩
/-- The result, stored. -/
theorem EI.put {w : World} {o : ByteArray} {fn : Nat} {s : ByteArray} {x : Option Addr} {l c : Nat} {m : Int} {W : World} (h : EI w o fn s x l c m W) {A B : Av} (hAB : B = A) {n : Nat} (hn : fA n = A.n) (t : Int) (ht : t = (A.t : Int)) (z : ByteArray) (hz : z = tx A.s) (b : Bool) (hb : b = A.b) (ob : Obj) :
    (VB (putN W (w.heap.size + 1) (.int .i64 t) (.float .f64 n) (.string z) (.bool b)) (w.heap.size + 1) (.int .i64 t) (.float .f64 n) (.string z) (.bool b) ∧
      VEnd B w (.returned (.agg #[.int .i64 t, .float .f64 n, .string z, .bool b])) (putN W (w.heap.size + 1) (.int .i64 t) (.float .f64 n) (.string z) (.bool b))) ∧
    (VB ((putN W (w.heap.size + 1) (.int .i64 t) (.float .f64 n) (.string z) (.bool b)).alloc ob) (w.heap.size + 1) (.int .i64 t) (.float .f64 n) (.string z) (.bool b) ∧
      VEnd B w (.returned (.agg #[.int .i64 t, .float .f64 n, .string z, .bool b])) ((putN W (w.heap.size + 1) (.int .i64 t) (.float .f64 n) (.string z) (.bool b)).alloc ob)) := by
  subst hAB ht hz hb
  have h1 := below_put (v0 := .int .i64 B.t) (v1 := .float .f64 n) (v2 := .string (tx B.s)) (v3 := .bool B.b) h.bel (show w.heap.size ≤ w.heap.size + 1 by omega)
  have h2 := h.r.put (v0 := .int .i64 B.t) (v1 := .float .f64 n) (v2 := .string (tx B.s)) (v3 := .bool B.b)
  exact ⟨⟨h2, h1, _, rfl, n, rfl, hn⟩, h2.below ((Below.refl _ _).alloc (Nat.le_refl _) _), h1.alloc (by have := h.bel.size; rw [putN_size]; exact this) _, _, rfl, n, rfl, hn⟩
theorem EI.fin {w : World} {o : ByteArray} {fn : Nat} {s : ByteArray} {x : Option Addr} {l c : Nat} {m : Int} {W W' : World} (h : EI w o fn s x l c m W) {A B : Av} (hAB : B = A) {v : Value} (hv : ValV v A) (hb : Below W.heap.size W W') :
    VB W' (w.heap.size + 1) (.int .i64 0) (.float .f64 0) (.string ⟨#[]⟩) (.bool false) ∧ ∃ n, v = .agg #[.int .i64 A.t, .float .f64 n, .string (tx A.s), .bool A.b] ∧
      VB (putN W' (w.heap.size + 1) (.int .i64 A.t) (.float .f64 n) (.string (tx A.s)) (.bool A.b)) (w.heap.size + 1) (.int .i64 A.t) (.float .f64 n) (.string (tx A.s)) (.bool A.b) ∧
      VEnd B w (.returned (.agg #[.int .i64 A.t, .float .f64 n, .string (tx A.s), .bool A.b])) (putN W' (w.heap.size + 1) (.int .i64 A.t) (.float .f64 n) (.string (tx A.s)) (.bool A.b)) := by
  obtain ⟨n, rfl, hn⟩ := hv
  have h2 := h.below hb
  have h3 := (h2.put hAB hn A.t rfl (tx A.s) rfl A.b rfl (.cells #[] 0)).1
  exact ⟨h2.r, n, rfl, h3.1, h3.2⟩
set_option maxRecDepth 100000 in
set_option maxHeartbeats 8000000 in
theorem weval_leaf (L : List Bnd) (hLL : L.length ≤ 1000000) (vb : Value) (op s : Bs) (fn : Nat) (l : List Tree) (hty : (tyT L (.mk op fn s l)).2 = 0) (hop : op = wnum ∨ op = wtext ∨ op = wname) (A : Nat → Prop) (v : Value) (m : Int) (w : World) (hv : NodeV A w v (.mk op fn s l)) (hbv : BndV w vb L) (hm : MaxLn m w) :
    Calls Tryz.prog 59 #[v, vb] w (VEnd (evT clN L (.mk op fn s l)) w) := by
  obtain ⟨x, cap, rfl, hcap, _⟩ := hv
  have HEI := Lib.hid (EI.start hm (tx op) fn (tx s) x l.length cap)
  have HBV := Lib.hid hbv
  have HNM := Lib.hid (fun c W => wnumV c W)
  have HBN := Lib.hid (fun W h => wbound s vb L hLL W h)
  have HBT : Hid (op = wname → ∃ v, boundV L s = some v) := Lib.hid (ty_ok hty).2.2
  obtain ⟨bx, bn, bc, rfl⟩ := hbv.agg
  obtain ⟨R, hR⟩ : ∃ R, R = evT clN L (.mk op fn s l) := ⟨_, rfl⟩
  rw [← hR]
  rw [evT] at hR
  generalize l.length = N at HEI hcap ⊢
  clear hty hbv hm
  rcases hop with hop | hop | hop
  · have HM : Hid (R = avN (fA fn)) := Lib.hid (by rw [hR, if_pos hop])
    have b0 : ((tx op).toList == [110, 117, 109]) = true := by rw [hop]; exact tx_same _
    clear hR hop HBT HBN
    generalize tx op = T at *
    generalize tx s = S at *
    go_enter Tryz.func59, Tryz.ntmps59
    go_upto_region 1 with (fail)
    generalize ((w.alloc (.cells #[.string T, .float .f64 fn, .string S, .slice x N cap] 25)).alloc (.cells #[.int .i64 0, .float .f64 0, .string ⟨#[]⟩, .bool false] 51)) = W0 at HEI ⊢
    obtain ⟨p0, p1, p2, p3, _⟩ := HEI.out.node.cells
    have hlt := HEI.out.r.lt
    go_wp2_with (first | (go_at_call 79; fail))
    go_at_call 79
    refine (HNM.out _ _).mono ?_
    rintro e w5 ⟨hb5, v5, rfl, hv5⟩
    obtain ⟨hz, n5, rfl, hz2, hend⟩ := EI.fin HEI.out HM.out hv5 hb5
    have HE := Lib.hid (And.intro hz2 hend)
    obtain ⟨k0, k1, k2, k3⟩ := hz.cells
    have f0 := hz.fr 0
    have f1 := hz.fr 1
    have f2 := hz.fr 2
    have f3 := hz.fr 3
    clear hz hz2 hend hb5 hv5
    go_wp2
    exact bodyPost_ret (val_res rfl _ _ (w.heap.size + 1) _ _ _ _ rfl HE.out.1) rfl HE.out.2
  · have HM : Hid (R = ⟨2, some 0, s, false⟩) := Lib.hid (by rw [hR, if_neg (by rw [hop]; decide), if_pos hop])
    have b0 : ((tx op).toList == [110, 117, 109]) = false := tx_ne (by rw [hop]; decide)
    have b1 : ((tx op).toList == [116, 101, 120, 116]) = true := by rw [hop]; exact tx_same _
    clear hR hop HBT HBN
    generalize tx op = T at *
    go_enter Tryz.func59, Tryz.ntmps59
    go_upto_region 1 with (fail)
    generalize ((w.alloc (.cells #[.string T, .float .f64 fn, .string (tx s), .slice x N cap] 25)).alloc (.cells #[.int .i64 0, .float .f64 0, .string ⟨#[]⟩, .bool false] 51)) = W0 at HEI ⊢
    obtain ⟨p0, p1, p2, p3, _⟩ := HEI.out.node.cells
    have hlt := HEI.out.r.lt
    have HE := Lib.hid (EI.put HEI.out HM.out (n := 0) fA_zero 2 rfl (tx s) rfl false rfl (.cells #[] 0)).1
    obtain ⟨k0, k1, k2, k3⟩ := HEI.out.r.cells
    have f0 := HEI.out.r.fr 0
    have f1 := HEI.out.r.fr 1
    have f2 := HEI.out.r.fr 2
    have f3 := HEI.out.r.fr 3
    go_wp2
    exact bodyPost_ret (val_res rfl _ _ (w.heap.size + 1) _ _ _ _ rfl HE.out.1) rfl HE.out.2
  · obtain ⟨bv, hbo⟩ := HBT.out hop
    have HM : Hid (R = avOf bv) := Lib.hid (by rw [hR, if_neg (by rw [hop]; decide), if_neg (by rw [hop]; decide), if_pos hop, hbo])
    have HT3 := Lib.hid (bound_t hbo)
    have b0 : ((tx op).toList == [110, 117, 109]) = false := tx_ne (by rw [hop]; decide)
    have b1 : ((tx op).toList == [116, 101, 120, 116]) = false := tx_ne (by rw [hop]; decide)
    have b2 : ((tx op).toList == [110, 97, 109, 101]) = true := by rw [hop]; exact tx_same _
    rw [hbo] at HBN
    clear hR hop HBT hbo
    generalize tx op = T at *
    go_enter Tryz.func59, Tryz.ntmps59
    go_upto_region 1 with (fail)
    generalize ((w.alloc (.cells #[.string T, .float .f64 fn, .string (tx s), .slice x N cap] 25)).alloc (.cells #[.int .i64 0, .float .f64 0, .string ⟨#[]⟩, .bool false] 51)) = W0 at HEI ⊢
    obtain ⟨p0, p1, p2, p3, _⟩ := HEI.out.node.cells
    have hlt := HEI.out.r.lt
    go_wp2_with (first | (go_at_call 45; fail))
    refine (HBN.out _ (HBV.out.below HEI.out.bel)).mono ?_
    rintro e w3 ⟨rfl, hb3⟩
    have HEI3 := Lib.hid (HEI.out.below hb3)
    obtain ⟨vt, vn, vs, vb'⟩ := bv
    have HT : Hid (vt = ((vt.toNat : Nat) : Int)) := Lib.hid (by
      have h3 : vt = 1 ∨ vt = 2 ∨ vt = 3 := HT3.out
      omega)
    have HE := Lib.hid (fun ob => (EI.put HEI3.out HM.out (n := vn) rfl vt HT.out (tx vs) rfl vb' rfl ob).2)
    obtain ⟨k0, k1, k2, k3⟩ := HEI3.out.r.cells
    have hlt3 := HEI3.out.r.lt
    have f0 := HEI3.out.r.fr 0
    have f1 := HEI3.out.r.fr 1
    have f2 := HEI3.out.r.fr 2
    have f3 := HEI3.out.r.fr 3
    clear hb3
    unfold bvV
    go_wp2
    exact bodyPost_ret (val_res rfl _ _ (w.heap.size + 1) _ _ _ _ rfl (HE.out _).1) rfl (HE.out _).2
end Go.Proofs.YtfalcmbjjlgoaaaGreatDoor
/- Walk: eval (printed by gen_sc.py). -/
namespace Go.Proofs.YtfalcmbjjlgoaaaGreatDoor
open Go.RowKit Go.Shelf Ieee
attribute [local go_sem] run_store_float
theorem of_int (n : Nat) : fA (floatOfInt .f64 (n : Int)) = some (ofI n) := fA_num (ofI_num n)
set_option maxRecDepth 100000 in
set_option maxHeartbeats 8000000 in
theorem weval_one (L : List Bnd) (vb : Value) (op s : Bs) (fn : Nat) (t0 : Tree) (hop0 : op ≠ wnum) (hop1 : op ≠ wtext) (hop2 : op ≠ wname) (ho : op = wnot ∨ op = wneg ∨ op = wabs ∨ op = wlen) (A : Nat → Prop) (v : Value) (m : Int) (w : World) (hbv : BndV w vb L) (hm : MaxLn m w)
    (hlen : (evT clN L t0).s.length ≤ 900000) (HK : ∀ (v : Value) (W : World), NodeV A W v t0 → BndV W vb L → MaxLn m W → Calls Tryz.prog 59 #[v, vb] W (VEnd (evT clN L t0) W)) (hv : NodeV A w v (.mk op fn s [t0])) :
    Calls Tryz.prog 59 #[v, vb] w (VEnd (evT clN L (.mk op fn s [t0])) w) := by
  obtain ⟨x, cap, rfl, hcap, hx, hch⟩ := hv
  obtain ⟨a, rfl⟩ : ∃ a, x = some a := by
    cases x with
    | none => have := hx rfl; cases this
    | some a => exact ⟨a, rfl⟩
  obtain ⟨hab, ⟨⟨u0, u1, u2, u3, e0, e1, e2, e3, hnode⟩, _⟩⟩ := hch a rfl
  replace hab := (hab (by intro e; cases e)).2
  simp only [Nat.zero_mul, Nat.zero_add] at e0 e1 e2 e3
  rw [show a.add 0 = a from rfl] at e0
  have e1' : w.cell? ⟨a.block, a.off + 1, none⟩ = some u1 := by simpa [Addr.add] using e1
  have e2' : w.cell? ⟨a.block, a.off + 2, none⟩ = some u2 := by simpa [Addr.add] using e2
  have e3' : w.cell? ⟨a.block, a.off + 3, none⟩ = some u3 := by simpa [Addr.add] using e3
  obtain ⟨o1, n1, s1, x1, l1, c1, hag⟩ := hnode.agg
  cases hag
  have HND := Lib.hid hnode
  have HKK := Lib.hid HK
  have HCN := Lib.hid (fun W => wcount (evT clN L t0).s hlen W)
  have HEI := Lib.hid (EI.start hm (tx op) fn (tx s) (some a) 1 cap)
  have HBV := Lib.hid hbv
  have HNM := Lib.hid (fun c W => wnumV c W)
  have HTR := Lib.hid (fun c W => wtruthV c W)
  obtain ⟨bx, bn, bc, rfl⟩ := hbv.agg
  obtain ⟨R, hR⟩ : ∃ R, R = evT clN L (.mk op fn s [t0]) := ⟨_, rfl⟩
  rw [← hR]
  rw [evT, if_neg hop0, if_neg hop1, if_neg hop2] at hR
  have hR1 : R = oneA clN op (evT clN L t0) := hR
  have HM0 := Lib.hid hR1
  obtain ⟨A1, hA1⟩ : ∃ x, x = evT clN L t0 := ⟨_, rfl⟩
  rw [← hA1] at HM0 HCN HKK
  have b0 : ((tx op).toList == [110, 117, 109]) = false := tx_ne hop0
  have b1 : ((tx op).toList == [116, 101, 120, 116]) = false := tx_ne hop1
  have b2 : ((tx op).toList == [110, 97, 109, 101]) = false := tx_ne hop2
  have HOP := Lib.hid ho
  obtain ⟨T, hT⟩ : ∃ T, T = tx op := ⟨_, rfl⟩
  have HT := Lib.hid hT
  rw [← hT] at b0 b1 b2 HEI ⊢
  clear hR hR1 hch hx hbv hm hnode HK hlen hcap ho hop0 hop1 hop2 hA1 hT
  show Calls Tryz.prog 59 #[.agg #[.string T, .float .f64 fn, .string (tx s), .slice (some a) 1 cap], .slice bx bn bc] w (VEnd R w)
  go_enter Tryz.func59, Tryz.ntmps59
  go_upto_region 1 with (fail)
  generalize ((w.alloc (.cells #[.string T, .float .f64 fn, .string (tx s), .slice (some a) 1 cap] 25)).alloc (.cells #[.int .i64 0, .float .f64 0, .string ⟨#[]⟩, .bool false] 51)) = W0 at HEI ⊢
  obtain ⟨p0, p1, p2, p3, _⟩ := HEI.out.node.cells
  have hlt := HEI.out.r.lt
  have hs : W0.heap[a.block]? = w.heap[a.block]? := HEI.out.bel.block _ hab
  have d0 := cell_same hs e0
  have d1 := cell_same (a := ⟨a.block, a.off + 1, none⟩) hs e1'
  have d2 := cell_same (a := ⟨a.block, a.off + 2, none⟩) hs e2'
  have d3 := cell_same (a := ⟨a.block, a.off + 3, none⟩) hs e3'
  clear e0 e1 e2 e3 e1' e2' e3' hs
  go_wp2_with (first | (go_at_call 59; fail))
  refine (HKK.out _ W0 (HND.out.below HEI.out.bel) (HBV.out.below HEI.out.bel) HEI.out.mx).mono ?_
  rintro e w5 ⟨hb5, v5, rfl, n5, rfl, hn5⟩
  have HEI7 := Lib.hid ((HEI.out.below hb5).below ((Below.refl w5.heap.size w5).alloc (Nat.le_refl _) (.cells #[.int .i64 A1.t, .float .f64 n5, .string (tx A1.s), .bool A1.b] 51)))
  have HG7 : Hid (VB (w5.alloc (.cells #[.int .i64 A1.t, .float .f64 n5, .string (tx A1.s), .bool A1.b] 51)) w5.heap.size (.int .i64 A1.t) (.float .f64 n5) (.string (tx A1.s)) (.bool A1.b)) := Lib.hid (heap_alloc_new _ _)
  have HN5 := Lib.hid hn5
  have hlt5 : w.heap.size + 1 < w5.heap.size := by have := hb5.size; omega
  clear hb5 d0 d1 d2 d3 p0 p1 p2 p3 HEI HKK HND HBV hn5
  go_upto_region 10 with (fail)
  generalize (w5.alloc (.cells #[.int .i64 A1.t, .float .f64 n5, .string (tx A1.s), .bool A1.b] 51)) = W7 at HEI7 HG7 ⊢
  generalize w5.heap.size = g7 at HG7 hlt5 ⊢
  obtain ⟨q0, q1, q2, q3⟩ := HG7.out.cells
  obtain ⟨p0, p1, p2, p3, _⟩ := HEI7.out.node.cells
  have hlt := HEI7.out.r.lt
  have hg7 := HG7.out.lt
  rcases HOP.out with ho | ho | ho | ho
  · have h0 : (T.toList == [110, 111, 116]) = true := by rw [HT.out, ho]; exact tx_same _
    have HM : Hid (R = avB (!A1.b)) := Lib.hid (by rw [HM0.out, ho]; unfold oneA; rw [if_pos (by decide)])
    clear HM0 HOP ho HT HN5
    go_wp2_with (first | (go_at_call 80; fail))
    go_at_call 80
    refine (HTR.out _ _).mono ?_
    rintro e w8 ⟨hb8, v8, rfl, hv8⟩
    obtain ⟨hz, n8, rfl, hz2, hend⟩ := EI.fin HEI7.out HM.out hv8 hb8
    have HE := Lib.hid (And.intro hz2 hend)
    obtain ⟨k0, k1, k2, k3⟩ := hz.cells
    have f0 := hz.fr 0
    have f1 := hz.fr 1
    have f2 := hz.fr 2
    have f3 := hz.fr 3
    clear hz hz2 hend hb8 hv8
    go_wp2
    exact bodyPost_ret (val_res rfl _ _ (w.heap.size + 1) _ _ _ _ rfl HE.out.1) rfl HE.out.2
  · have h0 : (T.toList == [110, 111, 116]) = false := by rw [HT.out]; exact tx_ne (by rw [ho]; decide)
    have h1 : (T.toList == [110, 101, 103]) = true := by rw [HT.out, ho]; exact tx_same _
    have HM : Hid (R = avN (fA (n5 ^^^ 2 ^ 63))) := Lib.hid (by rw [HM0.out, ho]; unfold oneA; rw [if_neg (by decide), if_pos (by decide)]; rw [negA_neg, HN5.out])
    clear HM0 HOP ho HT HN5
    have hU : ∀ W, (Op.unary UnOp.neg (.float .f64 n5)).run Tryz.prog W = .ok (.float .f64 (n5 ^^^ 2 ^ 63)) W := fun _ => rfl
    generalize n5 ^^^ 2 ^ 63 = ng at hU HM
    go_wp2_with (first | (go_at_call 79; fail))
    go_at_call 79
    refine (HNM.out ng _).mono ?_
    rintro e w8 ⟨hb8, v8, rfl, hv8⟩
    obtain ⟨hz, n8, rfl, hz2, hend⟩ := EI.fin HEI7.out HM.out hv8 hb8
    have HE := Lib.hid (And.intro hz2 hend)
    obtain ⟨k0, k1, k2, k3⟩ := hz.cells
    have f0 := hz.fr 0
    have f1 := hz.fr 1
    have f2 := hz.fr 2
    have f3 := hz.fr 3
    clear hz hz2 hend hb8 hv8
    go_wp2
    exact bodyPost_ret (val_res rfl _ _ (w.heap.size + 1) _ _ _ _ rfl HE.out.1) rfl HE.out.2
  · have h0 : (T.toList == [110, 111, 116]) = false := by rw [HT.out]; exact tx_ne (by rw [ho]; decide)
    have h1 : (T.toList == [110, 101, 103]) = false := by rw [HT.out]; exact tx_ne (by rw [ho]; decide)
    have h2 : (T.toList == [97, 98, 115]) = true := by rw [HT.out, ho]; exact tx_same _
    have HM : Hid (R = avN (fA (n5 % 2 ^ 63))) := Lib.hid (by rw [HM0.out, ho]; unfold oneA; rw [if_neg (by decide), if_neg (by decide), if_pos (by decide)]; rw [absA_abs, HN5.out])
    clear HM0 HOP ho HT HN5
    have HAB := Lib.hid (fun W => wabsF n5 W)
    go_wp2_with (first | (go_at_call 81; refine (HAB.out _).mono ?_; rintro e w6 ⟨rfl, rfl⟩) | (go_at_call 79; fail))
    go_at_call 79
    refine (HNM.out _ _).mono ?_
    rintro e w8 ⟨hb8, v8, rfl, hv8⟩
    obtain ⟨hz, n8, rfl, hz2, hend⟩ := EI.fin HEI7.out HM.out hv8 hb8
    have HE := Lib.hid (And.intro hz2 hend)
    obtain ⟨k0, k1, k2, k3⟩ := hz.cells
    have f0 := hz.fr 0
    have f1 := hz.fr 1
    have f2 := hz.fr 2
    have f3 := hz.fr 3
    clear hz hz2 hend hb8 hv8
    go_wp2
    exact bodyPost_ret (val_res rfl _ _ (w.heap.size + 1) _ _ _ _ rfl HE.out.1) rfl HE.out.2
  · have h0 : (T.toList == [110, 111, 116]) = false := by rw [HT.out]; exact tx_ne (by rw [ho]; decide)
    have h1 : (T.toList == [110, 101, 103]) = false := by rw [HT.out]; exact tx_ne (by rw [ho]; decide)
    have h2 : (T.toList == [97, 98, 115]) = false := by rw [HT.out]; exact tx_ne (by rw [ho]; decide)
    have h3 : (T.toList == [108, 101, 110]) = true := by rw [HT.out, ho]; exact tx_same _
    have HM : Hid (R = avN (fA (floatOfInt .f64 ((clN A1.s : Nat) : Int)))) := Lib.hid (by rw [HM0.out, ho]; unfold oneA; rw [if_neg (by decide), if_neg (by decide), if_neg (by decide)]; rw [of_int])
    clear HM0 HOP ho HT HN5
    have HCN1 : Hid (Calls Tryz.prog 82 #[.string (tx A1.s)] W7 fun e w' => e = .returned (.int .i64 (clN A1.s)) ∧ Below W7.heap.size W7 w') := Lib.hid (HCN.out W7)
    generalize clN A1.s = CL at HM HCN1
    clear HCN
    go_wp2_with (first | (go_at_call 82; fail))
    go_at_call 82
    refine (HCN1.out).mono ?_
    rintro e w6 ⟨rfl, hb6⟩
    have HEI6 := Lib.hid (HEI7.out.below hb6)
    clear hb6
    go_wp2_with (first | (go_at_call 79; fail))
    go_at_call 79
    refine (HNM.out _ _).mono ?_
    rintro e w8 ⟨hb8, v8, rfl, hv8⟩
    obtain ⟨hz, n8, rfl, hz2, hend⟩ := EI.fin HEI6.out HM.out hv8 hb8
    have HE := Lib.hid (And.intro hz2 hend)
    obtain ⟨k0, k1, k2, k3⟩ := hz.cells
    have f0 := hz.fr 0
    have f1 := hz.fr 1
    have f2 := hz.fr 2
    have f3 := hz.fr 3
    clear hz hz2 hend hb8 hv8
    go_wp2
    exact bodyPost_ret (val_res rfl _ _ (w.heap.size + 1) _ _ _ _ rfl HE.out.1) rfl HE.out.2
end Go.Proofs.YtfalcmbjjlgoaaaGreatDoor
