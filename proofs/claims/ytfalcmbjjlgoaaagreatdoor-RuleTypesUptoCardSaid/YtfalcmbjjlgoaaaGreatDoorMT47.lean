/- Own texts, merged: HB, HC, SB, SC, SD, SE, SF, SG. -/
import Derived.WalkMore
import Derived.Test.YtfalcmbjjlgoaaaGreatDoorMT41
import Derived.Test.YtfalcmbjjlgoaaaGreatDoorMT46
/- Walks: Cut. -/
namespace Go.Proofs.YtfalcmbjjlgoaaaGreatDoor
open Go.RowKit Go.Shelf
attribute [local go_sem] Oper.semAt_some
def cutR (s : List Bs × Bs × Bool) (r : Int) : List Bs × Bs × Bool := if ctl r = true then s else addS s r
/-- The builder behind these runes. -/
def cutF (rs : List Int) : List Bs × Bs × Bool := rs.foldl cutR ([], [], false)
def endS (s : List Bs × Bs × Bool) : List Bs := if s.2.2 = true then s.1 ++ [s.2.1] else s.1
/-- The clusters of a text. -/
def cutS (l : Bs) : List Bs := endS (cutF ((itm l).map (·.2)))
theorem cutF_snoc (rs : List Int) (r : Int) : cutF (rs ++ [r]) = cutR (cutF rs) r := by simp [cutF]
theorem cutR_len (s : List Bs × Bs × Bool) (r : Int) (h : s.2.1.length ≤ 64) : (cutR s r).1.length ≤ s.1.length + 1 ∧ (cutR s r).2.1.length ≤ 64 := by
  have := rb_len r
  unfold cutR addS
  split
  · omega
  · split
    · split <;> simp <;> omega
    · split
      · rename_i hc
        simp
        omega
      · omega
theorem cutF_len (rs : List Int) : (cutF rs).1.length ≤ rs.length ∧ (cutF rs).2.1.length ≤ 64 := by
  have : ∀ (rs : List Int) (s : List Bs × Bs × Bool), s.2.1.length ≤ 64 → (rs.foldl cutR s).1.length ≤ s.1.length + rs.length ∧ (rs.foldl cutR s).2.1.length ≤ 64 := by
    intro rs
    induction rs with
    | nil => intro s h; exact ⟨by simp, h⟩
    | cons r rs ih =>
      intro s h
      obtain ⟨h1, h2⟩ := cutR_len s r h
      obtain ⟨h3, h4⟩ := ih _ h2
      simp only [List.foldl_cons, List.length_cons]
      exact ⟨by omega, h4⟩
  have h := this rs ([], [], false) (by simp)
  simpa [cutF] using h
theorem itmN_len : ∀ (f a : Nat) (b : Bs), (itmN f a b).length ≤ f
  | 0, _, _ => by simp [itmN]
  | f + 1, a, [] => by simp [itmN]
  | f + 1, a, c :: t => by
    have := itmN_len f (a + (stp (c :: t)).2) ((c :: t).drop (stp (c :: t)).2)
    simp only [itmN, List.length_cons]
    omega
theorem itm_len (l : Bs) : (itm l).length ≤ l.length := itmN_len _ _ _
theorem each_stops {p q cap : Nat} {L : Bs} {w1 : World} (hL : L.length ≤ 4611686018427387904) (hcap : L.length ≤ cap) (hp : w1.heap[p]? = some (.cells #[.slice (some ⟨q, 0, none⟩) L.length cap] 83 (0, 0))) (hq : BytesAt w1 q 0 L) (hql : q < w1.heap.size) :
    SeqStopsK Fence.wide 5 Tryz.prog 124 #[.pointer (some ⟨p, 0, none⟩)] encE (KeepP p q) (fun xs => xs = itm L) (fun pre => pre ≠ [] ∧ pre <+: itm L) (itm L).length w1 := fun l J Jx W hW hA _ hY h0 => by
  have hpl : p < w1.heap.size := (Array.getElem?_eq_some_iff.1 hp).1
  refine (each_in l p q cap L hL hcap W ((hW.block p hpl).trans hp) (hq.kept hql hW) (by have := hW.size; omega) J Jx hA ?_ h0).mono ?_
  · intro pre x W1 hJ hpr
    have hlt : pre.length < (itm L).length := by have := hpr.length_le; simp at this; omega
    exact hY pre x W1 hJ hlt
  · rintro e W' ⟨he, ⟨xs, hx, hJ⟩ | ⟨pre, hpre, hJ⟩⟩
    · exact ⟨he, .inl ⟨xs, hx, hJ⟩⟩
    · exact ⟨he, .inr ⟨pre, hpre, hJ⟩⟩
/-- What Cut's round keeps. -/
structure CI (w : World) (B b : Nat) (rs : List Int) (W : World) : Prop where
  bs : BSt B b (cutF rs).1 (cutF rs).2.1 (cutF rs).2.2 W
  bel : Below w.heap.size w W
theorem ci_own {α : Type} (w : World) (B b : Nat) (f : List α → List Int) (hB : w.heap.size ≤ B) : OwnFrom B (fun (pre : List α) W => CI w B b (f pre) W) := fun _ _ _ _ h hg hr => by
  have hk := cells_grown hg (fun r e => (hr r e).2)
  obtain ⟨vd, vn, h1, hd, hn⟩ := h.bs.ex
  have hrow : ∀ {e : TypeId} {z n : Nat} {v : Value} {xs : List Value} {A C : World}, CellsKept A C → A.ownsRow B e z v n xs → C.ownsRow B e z v n xs := fun hk ho => by
    refine ⟨ho.1, ?_⟩
    rcases ho.2 with h2 | ⟨g, cap, cur, hv, hb, hg, hr⟩
    · exact .inl h2
    · exact .inr ⟨g, cap, cur, hv, hb, (hk.2 _ _ hg rfl).trans hg, hr⟩
  exact ⟨⟨⟨vd, vn, (hk.2 _ _ h1 rfl).trans h1, hrow hk hd, hrow hk hn⟩, ⟨h.bs.lt.1, Nat.le_trans h.bs.lt.2 hg.size⟩, h.bs.op⟩, h.bel.grown hg h.bel.size (fun k e => by have := (hr k e).1; omega)⟩
theorem wendS (B b : Nat) (s : List Bs × Bs × Bool) (hDl : s.1.length ≤ 1000000) (w : World) (h : BSt B b s.1 s.2.1 s.2.2 w) : Calls Tryz.prog 109 #[.pointer (some ⟨b, 0, none⟩)] w fun e w' => e = .returned (.tuple #[]) ∧ BSt B b (endS s) [] false w' ∧ Stay b B w w' := by
  obtain ⟨D, N, o⟩ := s
  unfold endS
  cases o
  · exact wend0 B b D N w h
  · exact wend1 B b D N hDl w h
theorem row_lower {w : World} {b b' : Nat} {e : TypeId} {z n : Nat} {v : Value} {xs : List Value} (h : w.ownsRow b e z v n xs) (hb : b' ≤ b) : w.ownsRow b' e z v n xs := by
  refine ⟨h.1, ?_⟩
  rcases h.2 with h2 | ⟨g, cap, cur, hv, hg, hr⟩
  · exact .inl h2
  · exact .inr ⟨g, cap, cur, hv, Nat.le_trans hb hg, hr⟩
def CutEnd (l : Bs) (w : World) (e : Ending) (w' : World) : Prop := ∃ v, e = .returned v ∧ w'.ownsRow w.heap.size 9 1 v (cutS l).length (strs (cutS l)) ∧ Below w.heap.size w w'
set_option maxRecDepth 100000 in
set_option maxHeartbeats 4000000 in
theorem wcutS (l : Bs) (hl : l.length ≤ 900000) (w : World) : Calls Tryz.prog 97 #[.string (tx l)] w (CutEnd l w) := by
  have HALL := Lib.hid (fun W => wall l W)
  unfold AllAt at HALL
  have HLL := Lib.hid hl
  obtain ⟨T, hT⟩ : ∃ T, T = tx l := ⟨_, rfl⟩
  rw [← hT] at HALL ⊢
  clear hT
  refine (callsIn_wide (n := 6)).1 ?_
  refine callsIn_of_wp_marks Tryz.func97 rfl trivial ?_ rfl
  simp only [Tryz.ntmps97, List.size_toArray, List.length_cons, List.length_nil, Nat.reduceAdd, Nat.reduceSub, Array.replicate_succ, Array.replicate_zero, List.push_toArray, List.append_toArray, List.nil_append, List.cons_append]
  refine wpIn_wide.2 ?_
  go_wp2
  go_step3
  go_wp2
  go_step3
  go_wp2_with (first | (go_at_call 106; fail))
  go_at_call 106
  refine (HALL.out _).mono ?_
  rintro e w1 ⟨p, q, cap, rfl, hp, hcap, hq, hql, hpg, hqg, hb⟩
  have H1 : Hid (CI w w1.heap.size w.heap.size [] w1) := by
    have h0 := heap_alloc_new w (.cells #[.slice none 0 0, .slice none 0 0, .bool false] 126)
    have hb0 : Below w.heap.size w w1 := ((Below.refl _ _).alloc (Nat.le_refl _) _).trans (below_le hb (by simp))
    have hsz := hb.size
    simp at hsz
    exact Lib.hid ⟨⟨⟨.slice none 0 0, .slice none 0 0, (hb.block _ (by simp)).trans h0, World.ownsRow_nil _ _ _ _, World.ownsRow_nil _ _ _ _⟩, ⟨by omega, Nat.le_refl _⟩, fun h => by cases h⟩, hb0⟩
  go_wp2
  have hpl : p < w1.heap.size := (Array.getElem?_eq_some_iff.1 hp).1
  have hpb : p ≠ w.heap.size := by simp at hpg; omega
  have hqb : q ≠ w.heap.size := by simp at hqg; omega
  have HPQ := Lib.hid (And.intro (And.intro hpl hql) (And.intro hpb hqb))
  have HST := Lib.hid (each_stops (L := l) (by omega) hcap hp hq hql)
  clear hp hq hcap hpg hqg hb hpl hql hpb hqb
  refine (wpIn_wide (n := 6)).1 ?_
  refine wpIn_rangeFunc_ownH rfl (by omega) (gf := 124) (lb := #[.pointer (some ⟨p, 0, none⟩)]) (by simp [go_sem]) trivial (enters_of Tryz.func124 (by kernel_rfl) rfl)
    HST.out KeepP.trans (keepP_b HPQ.out.1.1 HPQ.out.1.2) (Below.refl _ _) (fun _ => rfl)
    (fun (pre : List (Nat × Int)) W => CI w w1.heap.size w.heap.size (pre.map (·.2)) W)
    (fun _ _ _ => False)
    (ci_own w _ _ (fun (pre : List (Nat × Int)) => pre.map (·.2)) H1.out.bel.size)
    (fun _ _ _ _ _ hs _ _ => hs)
    H1.out
    (fun x a' _ => a' = { tmps := #[.string T, undef, .slice none 0 0, .pointer (some ⟨w.heap.size, 0, none⟩), undef, .int .i32 x.2, .string T, .func (.func 124) #[] #[.pointer (some ⟨p, 0, none⟩)], .int .i64 x.1, .int .i32 x.2, undef, undef, undef, undef, undef, undef, undef], defers := [] })
    (fun _ _ _ _ _ _ h _ _ => h) ?assign ?body ?done ?stop
  case assign =>
    intro l' pre x W K hI hK
    unfold encE
    have H := Lib.hid hK
    clear hK
    gi_wp2
    exact H.out _ _ (keepsFrom_below (Below.refl _ _)) (KeepP.refl _ _ _) hI rfl
  case body =>
    rintro l' pre x a' W hl' ⟨rr, hrr⟩ hI rfl hlt
    have HI := Lib.hid hI
    have hln := itm_len l
    have hbd := cutF_len (pre.map (·.2))
    rw [List.length_map] at hbd
    have HAD := Lib.hid (fun V (hV : BSt w1.heap.size w.heap.size _ _ _ V) => wadd w1.heap.size w.heap.size (cutF (pre.map (·.2))) x.2 (by have := HLL.out; omega) (by omega) V hV)
    have HCT := Lib.hid (wctl x.2)
    have HSN : Hid (cutF ((pre ++ [x]).map (·.2)) = if ctl x.2 = true then cutF (pre.map (·.2)) else addS (cutF (pre.map (·.2))) x.2) := Lib.hid (by rw [List.map_append, List.map_cons, List.map_nil, cutF_snoc]; rfl)
    obtain ⟨C, hC⟩ : ∃ C, C = ctl x.2 := ⟨_, rfl⟩
    rw [← hC] at HCT HSN
    clear hC hI hrr hlt hln hbd
    gi_wp2_with (first | (refine ⟨trivial, ?_⟩; gi_at_call 107; fail))
    refine ⟨trivial, ?_⟩
    gi_at_call 107
    refine (CallsIn.inRound l' (callsIn_wide.2 (HCT.out _))).mono ?_
    rintro e w2 ⟨rfl, rfl⟩
    cases C
    · gi_wp2_with (first | (refine ⟨trivial, ?_⟩; gi_at_call 108; fail))
      refine ⟨trivial, ?_⟩
      gi_at_call 108
      refine (CallsIn.inRound l' (callsIn_wide.2 (HAD.out _ HI.out.bs))).mono ?_
      rintro e w3 ⟨rfl, hB3, hS3⟩
      have H3 : Hid (CI w w1.heap.size w.heap.size ((pre ++ [x]).map (·.2)) w3) := Lib.hid ⟨by rw [HSN.out]; exact hB3, HI.out.bel.trans (hS3.below (by have := H1.out.bs.lt; omega))⟩
      have HK3 : Hid (KeepsFrom w1.heap.size W w3 ∧ KeepP p q W w3) := Lib.hid ⟨⟨hS3.size, fun j o _ ho hc => hS3.same j o ho hc⟩, ⟨hS3.size, hS3.block p HPQ.out.1.1 HPQ.out.2.1, hS3.block q HPQ.out.1.2 HPQ.out.2.2⟩⟩
      clear hB3 hS3
      gi_wp2
      exact ⟨HK3.out.1, HK3.out.2, H3.out⟩
    · have H3 : Hid (CI w w1.heap.size w.heap.size ((pre ++ [x]).map (·.2)) W) := Lib.hid ⟨by rw [HSN.out]; exact HI.out.bs, HI.out.bel⟩
      gi_wp2
      exact ⟨keepsFrom_below (Below.refl _ _), KeepP.refl _ _ _, H3.out⟩
  case done =>
    rintro D xs W hD hS hI hK
    subst hS
    have hln := itm_len l
    have hbd := cutF_len ((itm l).map (·.2))
    rw [List.length_map] at hbd
    have HEN := Lib.hid (wendS w1.heap.size w.heap.size (cutF ((itm l).map (·.2))) (by omega) W hI.bs)
    have HBE := Lib.hid hI.bel
    have HK := Lib.hid hK
    have HD := Lib.hid hD
    have HSZ := Lib.hid (show w.heap.size ≤ w1.heap.size from by have := H1.out.bs.lt; omega)
    clear hI hK hD hln hbd
    go_wp2_with (first | (go_at_call 109; fail))
    go_at_call 109
    refine HEN.out.mono ?_
    rintro e w4 ⟨rfl, hB4, hS4⟩
    obtain ⟨vd, vn, hb, hd, hn⟩ := hB4.ex
    have HDD := Lib.hid hd
    have HB4 := Lib.hid (HBE.out.trans (hS4.below (by have := hB4.lt; omega)))
    have HK4 : Hid (w4.heap[D]? = some (.deferred (some []))) := Lib.hid (hS4.same D _ HK.out rfl)
    have c0 : w4.cell? ⟨w.heap.size, 0, none⟩ = some vd := by simp [World.cell?, hb]
    clear hB4 hS4 hb hd hn
    go_wp2
    rw [Exit.noGoto_ret]
    refine ⟨by simp, .inl ⟨_, _, rfl, run_takeDeferred HK4.out, ?_⟩⟩
    refine ⟨_, results_tmp rfl _ _ _, vd, rfl, row_kept (row_lower HDD.out HSZ.out) (fun j hj => ?_), HB4.out.trans (belowK_b (w := w) (Nat.le_refl _) w4 D _ _ (by have := HD.out; have := HSZ.out; omega) HK4.out rfl rfl)⟩
    refine World.putObj_heap_other (fun e => ?_)
    subst e
    rcases HDD.out.2 with ⟨hv, _⟩ | ⟨g, cap, cur, hv, _, hg, _⟩
    · rw [hv] at hj; cases hj
    · rw [hv] at hj; cases hj; rw [HK4.out] at hg; cases hg
  case stop =>
    rintro D c pre W _ _ h _
    exact h.elim
end Go.Proofs.YtfalcmbjjlgoaaaGreatDoor
/- Walks: Clean, Count. -/
namespace Go.Proofs.YtfalcmbjjlgoaaaGreatDoor
open Go.RowKit Go.Shelf
def Short (s : List Bs × Bs × Bool) : Prop := (∀ c ∈ s.1, c.length ≤ 64) ∧ s.2.1.length ≤ 64
theorem cutR_short (s : List Bs × Bs × Bool) (r : Int) (h : Short s) : Short (cutR s r) := by
  obtain ⟨h1, h2⟩ := h
  have := rb_len r
  refine ⟨?_, (cutR_len s r h2).2⟩
  unfold cutR addS
  split
  · exact h1
  · split
    · split
      · intro c hc
        rcases List.mem_append.1 hc with q | q
        · exact h1 c q
        · simp at q; rw [q]; exact h2
      · exact h1
    · split
      · exact h1
      · exact h1
theorem cutS_short (l : Bs) : ∀ c ∈ cutS l, c.length ≤ 64 := by
  have h : ∀ (rs : List Int) (s : List Bs × Bs × Bool), Short s → Short (rs.foldl cutR s) := by
    intro rs
    induction rs with
    | nil => intro s h; exact h
    | cons r rs ih => intro s h; exact ih _ (cutR_short s r h)
  obtain ⟨h1, h2⟩ := h ((itm l).map (·.2)) ([], [], false) ⟨by simp, by simp⟩
  unfold cutS endS cutF
  intro c hc
  split at hc
  · rcases List.mem_append.1 hc with q | q
    · exact h1 c q
    · simp at q; rw [q]; exact h2
  · exact h1 c hc
theorem cutS_len (l : Bs) : (cutS l).length ≤ l.length + 1 := by
  have h1 := (cutF_len ((itm l).map (·.2))).1
  rw [List.length_map] at h1
  have h2 := itm_len l
  unfold cutS endS
  split
  · simp; omega
  · omega
theorem flat_short (ws : List Bs) (h : ∀ c ∈ ws, c.length ≤ 64) : ws.flatten.length ≤ 64 * ws.length := by
  induction ws with
  | nil => simp
  | cons a t ih =>
    have h1 := h a (by simp)
    have h2 := ih (fun c hc => h c (by simp [hc]))
    simp only [List.flatten_cons, List.length_append, List.length_cons]
    omega
/-- A text without its controls and stray marks. -/
def cleanS (l : Bs) : Bs := (cutS l).flatten
theorem cleanS_len (l : Bs) : (cleanS l).length ≤ 64 * (l.length + 1) := by
  have h1 := flat_short _ (cutS_short l)
  have h2 := cutS_len l
  unfold cleanS
  omega
theorem wcount (l : Bs) (hl : l.length ≤ 900000) (w : World) : Calls Tryz.prog 82 #[.string (tx l)] w fun e w' => e = .returned (.int .i64 (cutS l).length) ∧ Below w.heap.size w w' := by
  have HC := Lib.hid (fun W => wcutS l hl W)
  unfold CutEnd at HC
  obtain ⟨T, hT⟩ : ∃ T, T = tx l := ⟨_, rfl⟩
  rw [← hT] at HC ⊢
  clear hT
  go_enter Tryz.func82, Tryz.ntmps82
  go_wp2_with (first | (go_at_call 97; fail))
  go_at_call 97
  refine (HC.out _).mono ?_
  rintro e w1 ⟨v, rfl, hv, hb⟩
  obtain ⟨x, c, rfl⟩ := ownsRow_is hv
  have HB := Lib.hid hb
  clear hv hb
  go_wp2
  go_ret
  exact ⟨rfl, HB.out⟩
end Go.Proofs.YtfalcmbjjlgoaaaGreatDoor
/- Walk: eval: its start, leaves. -/
namespace Go.Proofs.YtfalcmbjjlgoaaaGreatDoor
open Go.RowKit Go.Shelf Ieee
attribute [local go_sem] run_store_float
/-- How many clusters a text has. -/
def clN (s : Bs) : Nat := (cutS s).length
theorem takes_12t {op : Bs} {k : Nat} (h : takesT op = some k) (h0 : op ≠ wnum) (h1 : op ≠ wtext) (h2 : op ≠ wname) : (k = 1 ∧ (op = wnot ∨ op = wneg ∨ op = wabs ∨ op = wlen)) ∨ (k = 2 ∧ op ≠ wnot ∧ op ≠ wneg ∧ op ≠ wabs ∧ op ≠ wlen) := by
  unfold takesT at h
  rw [if_neg (fun e => by rcases e with e | e | e; exact h0 e; exact h1 e; exact h2 e)] at h
  by_cases q : op = wnot ∨ op = wneg ∨ op = wlen ∨ op = wabs
  · rw [if_pos q] at h
    cases h
    rcases q with q | q | q | q
    · exact .inl ⟨rfl, .inl q⟩
    · exact .inl ⟨rfl, .inr (.inl q)⟩
    · exact .inl ⟨rfl, .inr (.inr (.inr q))⟩
    · exact .inl ⟨rfl, .inr (.inr (.inl q))⟩
  · rw [if_neg q] at h
    split at h
    · cases h
      exact .inr ⟨rfl, fun e => q (.inl e), fun e => q (.inr (.inl e)), fun e => q (.inr (.inr (.inr e))), fun e => q (.inr (.inr (.inl e)))⟩
    · cases h
/-- What eval holds: the node, its result's variable. -/
structure EI (w : World) (o : ByteArray) (fn : Nat) (s : ByteArray) (x : Option Addr) (l c : Nat) (m : Int) (W : World) : Prop where
  node : NB W w.heap.size (.agg #[.string o, .float .f64 fn, .string s, .slice x l c])
  r : VB W (w.heap.size + 1) (.int .i64 0) (.float .f64 0) (.string ⟨#[]⟩) (.bool false)
  bel : Below w.heap.size w W
  mx : MaxLn m W
theorem EI.start {w : World} {m : Int} (hm : MaxLn m w) (o : ByteArray) (fn : Nat) (s : ByteArray) (x : Option Addr) (l c : Nat) :
    EI w o fn s x l c m ((w.alloc (.cells #[.string o, .float .f64 fn, .string s, .slice x l c] 25)).alloc (.cells #[.int .i64 0, .float .f64 0, .string ⟨#[]⟩, .bool false] 51)) := by
  have h1 : NB (w.alloc (.cells #[.string o, .float .f64 fn, .string s, .slice x l c] 25)) w.heap.size (.agg #[.string o, .float .f64 fn, .string s, .slice x l c]) := ⟨_, _, _, _, rfl, heap_alloc_new _ _⟩
  have h2 : VB ((w.alloc (.cells #[.string o, .float .f64 fn, .string s, .slice x l c] 25)).alloc (.cells #[.int .i64 0, .float .f64 0, .string ⟨#[]⟩, .bool false] 51)) (w.heap.size + 1) (.int .i64 0) (.float .f64 0) (.string ⟨#[]⟩) (.bool false) := by
    have := heap_alloc_new (w.alloc (.cells #[.string o, .float .f64 fn, .string s, .slice x l c] 25)) (.cells #[.int .i64 0, .float .f64 0, .string ⟨#[]⟩, .bool false] 51)
    simpa [VB] using this
  have hb : Below w.heap.size w ((w.alloc (.cells #[.string o, .float .f64 fn, .string s, .slice x l c] 25)).alloc (.cells #[.int .i64 0, .float .f64 0, .string ⟨#[]⟩, .bool false] 51)) := ((Below.refl _ _).alloc (Nat.le_refl _) _).alloc (by simp) _
  exact ⟨h1.below ((Below.refl _ _).alloc (Nat.le_refl _) _), h2, hb, hm.below hb⟩
theorem EI.below {w : World} {o : ByteArray} {fn : Nat} {s : ByteArray} {x : Option Addr} {l c : Nat} {m : Int} {W W' : World} (h : EI w o fn s x l c m W) (hb : Below W.heap.size W W') : EI w o fn s x l c m W' :=
  ⟨h.node.below hb, h.r.below hb, h.bel.trans (below_le hb h.bel.size), h.mx.below hb⟩
/-- The result, stored. -/
theorem EI.put {w : World} {o : ByteArray} {fn : Nat} {s : ByteArray} {x : Option Addr} {l c : Nat} {m : Int} {W : World} (h : EI w o fn s x l c m W) {A B : Av} (hAB : B = A) {n : Nat} (hn : fA n = A.n) (t : Int) (ht : t = (A.t : Int)) (z : ByteArray) (hz : z = tx A.s) (b : Bool) (hb : b = A.b) (ob : Obj) :
    (VB (putN W (w.heap.size + 1) (.int .i64 t) (.float .f64 n) (.string z) (.bool b)) (w.heap.size + 1) (.int .i64 t) (.float .f64 n) (.string z) (.bool b) ∧
      VEnd B w (.returned (.agg #[.int .i64 t, .float .f64 n, .string z, .bool b])) (putN W (w.heap.size + 1) (.int .i64 t) (.float .f64 n) (.string z) (.bool b))) ∧
    (VB ((putN W (w.heap.size + 1) (.int .i64 t) (.float .f64 n) (.string z) (.bool b)).alloc ob) (w.heap.size + 1) (.int .i64 t) (.float .f64 n) (.string z) (.bool b) ∧
      VEnd B w (.returned (.agg #[.int .i64 t, .float .f64 n, .string z, .bool b])) ((putN W (w.heap.size + 1) (.int .i64 t) (.float .f64 n) (.string z) (.bool b)).alloc ob)) := by
  subst hAB ht hz hb
  have h1 := below_put (v0 := .int .i64 B.t) (v1 := .float .f64 n) (v2 := .string (tx B.s)) (v3 := .bool B.b) h.bel (show w.heap.size ≤ w.heap.size + 1 by omega)
  have h2 := h.r.put (v0 := .int .i64 B.t) (v1 := .float .f64 n) (v2 := .string (tx B.s)) (v3 := .bool B.b)
  exact ⟨⟨h2, h1, _, rfl, n, rfl, hn⟩, h2.below ((Below.refl _ _).alloc (Nat.le_refl _) _), h1.alloc (by have := h.bel.size; rw [putN_size]; exact this) _, _, rfl, n, rfl, hn⟩
theorem EI.fin {w : World} {o : ByteArray} {fn : Nat} {s : ByteArray} {x : Option Addr} {l c : Nat} {m : Int} {W W' : World} (h : EI w o fn s x l c m W) {A B : Av} (hAB : B = A) {v : Value} (hv : ValV v A) (hb : Below W.heap.size W W') :
    VB W' (w.heap.size + 1) (.int .i64 0) (.float .f64 0) (.string ⟨#[]⟩) (.bool false) ∧ ∃ n, v = .agg #[.int .i64 A.t, .float .f64 n, .string (tx A.s), .bool A.b] ∧
      VB (putN W' (w.heap.size + 1) (.int .i64 A.t) (.float .f64 n) (.string (tx A.s)) (.bool A.b)) (w.heap.size + 1) (.int .i64 A.t) (.float .f64 n) (.string (tx A.s)) (.bool A.b) ∧
      VEnd B w (.returned (.agg #[.int .i64 A.t, .float .f64 n, .string (tx A.s), .bool A.b])) (putN W' (w.heap.size + 1) (.int .i64 A.t) (.float .f64 n) (.string (tx A.s)) (.bool A.b)) := by
  obtain ⟨n, rfl, hn⟩ := hv
  have h2 := h.below hb
  have h3 := (h2.put hAB hn A.t rfl (tx A.s) rfl A.b rfl (.cells #[] 0)).1
  exact ⟨h2.r, n, rfl, h3.1, h3.2⟩
set_option maxRecDepth 100000 in
set_option maxHeartbeats 8000000 in
theorem weval_leaf (L : List Bnd) (hLL : L.length ≤ 1000000) (vb : Value) (op s : Bs) (fn : Nat) (l : List Tree) (hty : (tyT L (.mk op fn s l)).2 = 0) (hop : op = wnum ∨ op = wtext ∨ op = wname) (A : Nat → Prop) (v : Value) (m : Int) (w : World) (hv : NodeV A w v (.mk op fn s l)) (hbv : BndV w vb L) (hm : MaxLn m w) :
    Calls Tryz.prog 59 #[v, vb] w (VEnd (evT clN L (.mk op fn s l)) w) := by
  obtain ⟨x, cap, rfl, hcap, _⟩ := hv
  have HEI := Lib.hid (EI.start hm (tx op) fn (tx s) x l.length cap)
  have HBV := Lib.hid hbv
  have HNM := Lib.hid (fun c W => wnumV c W)
  have HBN := Lib.hid (fun W h => wbound s vb L hLL W h)
  have HBT : Hid (op = wname → ∃ v, boundV L s = some v) := Lib.hid (ty_ok hty).2.2
  obtain ⟨bx, bn, bc, rfl⟩ := hbv.agg
  obtain ⟨R, hR⟩ : ∃ R, R = evT clN L (.mk op fn s l) := ⟨_, rfl⟩
  rw [← hR]
  rw [evT] at hR
  generalize l.length = N at HEI hcap ⊢
  clear hty hbv hm
  rcases hop with hop | hop | hop
  · have HM : Hid (R = avN (fA fn)) := Lib.hid (by rw [hR, if_pos hop])
    have b0 : ((tx op).toList == [110, 117, 109]) = true := by rw [hop]; exact tx_same _
    clear hR hop HBT HBN
    generalize tx op = T at *
    generalize tx s = S at *
    go_enter Tryz.func59, Tryz.ntmps59
    go_upto_region 1 with (fail)
    generalize ((w.alloc (.cells #[.string T, .float .f64 fn, .string S, .slice x N cap] 25)).alloc (.cells #[.int .i64 0, .float .f64 0, .string ⟨#[]⟩, .bool false] 51)) = W0 at HEI ⊢
    obtain ⟨p0, p1, p2, p3, _⟩ := HEI.out.node.cells
    have hlt := HEI.out.r.lt
    go_wp2_with (first | (go_at_call 79; fail))
    go_at_call 79
    refine (HNM.out _ _).mono ?_
    rintro e w5 ⟨hb5, v5, rfl, hv5⟩
    obtain ⟨hz, n5, rfl, hz2, hend⟩ := EI.fin HEI.out HM.out hv5 hb5
    have HE := Lib.hid (And.intro hz2 hend)
    obtain ⟨k0, k1, k2, k3⟩ := hz.cells
    have f0 := hz.fr 0
    have f1 := hz.fr 1
    have f2 := hz.fr 2
    have f3 := hz.fr 3
    clear hz hz2 hend hb5 hv5
    go_wp2
    exact bodyPost_ret (val_res rfl _ _ (w.heap.size + 1) _ _ _ _ rfl HE.out.1) rfl HE.out.2
  · have HM : Hid (R = ⟨2, some 0, s, false⟩) := Lib.hid (by rw [hR, if_neg (by rw [hop]; decide), if_pos hop])
    have b0 : ((tx op).toList == [110, 117, 109]) = false := tx_ne (by rw [hop]; decide)
    have b1 : ((tx op).toList == [116, 101, 120, 116]) = true := by rw [hop]; exact tx_same _
    clear hR hop HBT HBN
    generalize tx op = T at *
    go_enter Tryz.func59, Tryz.ntmps59
    go_upto_region 1 with (fail)
    generalize ((w.alloc (.cells #[.string T, .float .f64 fn, .string (tx s), .slice x N cap] 25)).alloc (.cells #[.int .i64 0, .float .f64 0, .string ⟨#[]⟩, .bool false] 51)) = W0 at HEI ⊢
    obtain ⟨p0, p1, p2, p3, _⟩ := HEI.out.node.cells
    have hlt := HEI.out.r.lt
    have HE := Lib.hid (EI.put HEI.out HM.out (n := 0) fA_zero 2 rfl (tx s) rfl false rfl (.cells #[] 0)).1
    obtain ⟨k0, k1, k2, k3⟩ := HEI.out.r.cells
    have f0 := HEI.out.r.fr 0
    have f1 := HEI.out.r.fr 1
    have f2 := HEI.out.r.fr 2
    have f3 := HEI.out.r.fr 3
    go_wp2
    exact bodyPost_ret (val_res rfl _ _ (w.heap.size + 1) _ _ _ _ rfl HE.out.1) rfl HE.out.2
  · obtain ⟨bv, hbo⟩ := HBT.out hop
    have HM : Hid (R = avOf bv) := Lib.hid (by rw [hR, if_neg (by rw [hop]; decide), if_neg (by rw [hop]; decide), if_pos hop, hbo])
    have HT3 := Lib.hid (bound_t hbo)
    have b0 : ((tx op).toList == [110, 117, 109]) = false := tx_ne (by rw [hop]; decide)
    have b1 : ((tx op).toList == [116, 101, 120, 116]) = false := tx_ne (by rw [hop]; decide)
    have b2 : ((tx op).toList == [110, 97, 109, 101]) = true := by rw [hop]; exact tx_same _
    rw [hbo] at HBN
    clear hR hop HBT hbo
    generalize tx op = T at *
    go_enter Tryz.func59, Tryz.ntmps59
    go_upto_region 1 with (fail)
    generalize ((w.alloc (.cells #[.string T, .float .f64 fn, .string (tx s), .slice x N cap] 25)).alloc (.cells #[.int .i64 0, .float .f64 0, .string ⟨#[]⟩, .bool false] 51)) = W0 at HEI ⊢
    obtain ⟨p0, p1, p2, p3, _⟩ := HEI.out.node.cells
    have hlt := HEI.out.r.lt
    go_wp2_with (first | (go_at_call 45; fail))
    refine (HBN.out _ (HBV.out.below HEI.out.bel)).mono ?_
    rintro e w3 ⟨rfl, hb3⟩
    have HEI3 := Lib.hid (HEI.out.below hb3)
    obtain ⟨vt, vn, vs, vb'⟩ := bv
    have HT : Hid (vt = ((vt.toNat : Nat) : Int)) := Lib.hid (by
      have h3 : vt = 1 ∨ vt = 2 ∨ vt = 3 := HT3.out
      omega)
    have HE := Lib.hid (fun ob => (EI.put HEI3.out HM.out (n := vn) rfl vt HT.out (tx vs) rfl vb' rfl ob).2)
    obtain ⟨k0, k1, k2, k3⟩ := HEI3.out.r.cells
    have hlt3 := HEI3.out.r.lt
    have f0 := HEI3.out.r.fr 0
    have f1 := HEI3.out.r.fr 1
    have f2 := HEI3.out.r.fr 2
    have f3 := HEI3.out.r.fr 3
    clear hb3
    unfold bvV
    go_wp2
    exact bodyPost_ret (val_res rfl _ _ (w.heap.size + 1) _ _ _ _ rfl (HE.out _).1) rfl (HE.out _).2
end Go.Proofs.YtfalcmbjjlgoaaaGreatDoor
/- Walk: eval (printed by gen_sc.py). -/
namespace Go.Proofs.YtfalcmbjjlgoaaaGreatDoor
open Go.RowKit Go.Shelf Ieee
attribute [local go_sem] run_store_float
theorem of_int (n : Nat) : fA (floatOfInt .f64 (n : Int)) = some (ofI n) := fA_num (ofI_num n)
set_option maxRecDepth 100000 in
set_option maxHeartbeats 8000000 in
theorem weval_one (L : List Bnd) (vb : Value) (op s : Bs) (fn : Nat) (t0 : Tree) (hop0 : op ≠ wnum) (hop1 : op ≠ wtext) (hop2 : op ≠ wname) (ho : op = wnot ∨ op = wneg ∨ op = wabs ∨ op = wlen) (A : Nat → Prop) (v : Value) (m : Int) (w : World) (hbv : BndV w vb L) (hm : MaxLn m w)
    (hlen : (evT clN L t0).s.length ≤ 900000) (HK : ∀ (v : Value) (W : World), NodeV A W v t0 → BndV W vb L → MaxLn m W → Calls Tryz.prog 59 #[v, vb] W (VEnd (evT clN L t0) W)) (hv : NodeV A w v (.mk op fn s [t0])) :
    Calls Tryz.prog 59 #[v, vb] w (VEnd (evT clN L (.mk op fn s [t0])) w) := by
  obtain ⟨x, cap, rfl, hcap, hx, hch⟩ := hv
  obtain ⟨a, rfl⟩ : ∃ a, x = some a := by
    cases x with
    | none => have := hx rfl; cases this
    | some a => exact ⟨a, rfl⟩
  obtain ⟨hab, ⟨⟨u0, u1, u2, u3, e0, e1, e2, e3, hnode⟩, _⟩⟩ := hch a rfl
  replace hab := (hab (by intro e; cases e)).2
  simp only [Nat.zero_mul, Nat.zero_add] at e0 e1 e2 e3
  rw [show a.add 0 = a from rfl] at e0
  have e1' : w.cell? ⟨a.block, a.off + 1, none⟩ = some u1 := by simpa [Addr.add] using e1
  have e2' : w.cell? ⟨a.block, a.off + 2, none⟩ = some u2 := by simpa [Addr.add] using e2
  have e3' : w.cell? ⟨a.block, a.off + 3, none⟩ = some u3 := by simpa [Addr.add] using e3
  obtain ⟨o1, n1, s1, x1, l1, c1, hag⟩ := hnode.agg
  cases hag
  have HND := Lib.hid hnode
  have HKK := Lib.hid HK
  have HCN := Lib.hid (fun W => wcount (evT clN L t0).s hlen W)
  have HEI := Lib.hid (EI.start hm (tx op) fn (tx s) (some a) 1 cap)
  have HBV := Lib.hid hbv
  have HNM := Lib.hid (fun c W => wnumV c W)
  have HTR := Lib.hid (fun c W => wtruthV c W)
  obtain ⟨bx, bn, bc, rfl⟩ := hbv.agg
  obtain ⟨R, hR⟩ : ∃ R, R = evT clN L (.mk op fn s [t0]) := ⟨_, rfl⟩
  rw [← hR]
  rw [evT, if_neg hop0, if_neg hop1, if_neg hop2] at hR
  have hR1 : R = oneA clN op (evT clN L t0) := hR
  have HM0 := Lib.hid hR1
  obtain ⟨A1, hA1⟩ : ∃ x, x = evT clN L t0 := ⟨_, rfl⟩
  rw [← hA1] at HM0 HCN HKK
  have b0 : ((tx op).toList == [110, 117, 109]) = false := tx_ne hop0
  have b1 : ((tx op).toList == [116, 101, 120, 116]) = false := tx_ne hop1
  have b2 : ((tx op).toList == [110, 97, 109, 101]) = false := tx_ne hop2
  have HOP := Lib.hid ho
  obtain ⟨T, hT⟩ : ∃ T, T = tx op := ⟨_, rfl⟩
  have HT := Lib.hid hT
  rw [← hT] at b0 b1 b2 HEI ⊢
  clear hR hR1 hch hx hbv hm hnode HK hlen hcap ho hop0 hop1 hop2 hA1 hT
  show Calls Tryz.prog 59 #[.agg #[.string T, .float .f64 fn, .string (tx s), .slice (some a) 1 cap], .slice bx bn bc] w (VEnd R w)
  go_enter Tryz.func59, Tryz.ntmps59
  go_upto_region 1 with (fail)
  generalize ((w.alloc (.cells #[.string T, .float .f64 fn, .string (tx s), .slice (some a) 1 cap] 25)).alloc (.cells #[.int .i64 0, .float .f64 0, .string ⟨#[]⟩, .bool false] 51)) = W0 at HEI ⊢
  obtain ⟨p0, p1, p2, p3, _⟩ := HEI.out.node.cells
  have hlt := HEI.out.r.lt
  have hs : W0.heap[a.block]? = w.heap[a.block]? := HEI.out.bel.block _ hab
  have d0 := cell_same hs e0
  have d1 := cell_same (a := ⟨a.block, a.off + 1, none⟩) hs e1'
  have d2 := cell_same (a := ⟨a.block, a.off + 2, none⟩) hs e2'
  have d3 := cell_same (a := ⟨a.block, a.off + 3, none⟩) hs e3'
  clear e0 e1 e2 e3 e1' e2' e3' hs
  go_wp2_with (first | (go_at_call 59; fail))
  refine (HKK.out _ W0 (HND.out.below HEI.out.bel) (HBV.out.below HEI.out.bel) HEI.out.mx).mono ?_
  rintro e w5 ⟨hb5, v5, rfl, n5, rfl, hn5⟩
  have HEI7 := Lib.hid ((HEI.out.below hb5).below ((Below.refl w5.heap.size w5).alloc (Nat.le_refl _) (.cells #[.int .i64 A1.t, .float .f64 n5, .string (tx A1.s), .bool A1.b] 51)))
  have HG7 : Hid (VB (w5.alloc (.cells #[.int .i64 A1.t, .float .f64 n5, .string (tx A1.s), .bool A1.b] 51)) w5.heap.size (.int .i64 A1.t) (.float .f64 n5) (.string (tx A1.s)) (.bool A1.b)) := Lib.hid (heap_alloc_new _ _)
  have HN5 := Lib.hid hn5
  have hlt5 : w.heap.size + 1 < w5.heap.size := by have := hb5.size; omega
  clear hb5 d0 d1 d2 d3 p0 p1 p2 p3 HEI HKK HND HBV hn5
  go_upto_region 10 with (fail)
  generalize (w5.alloc (.cells #[.int .i64 A1.t, .float .f64 n5, .string (tx A1.s), .bool A1.b] 51)) = W7 at HEI7 HG7 ⊢
  generalize w5.heap.size = g7 at HG7 hlt5 ⊢
  obtain ⟨q0, q1, q2, q3⟩ := HG7.out.cells
  obtain ⟨p0, p1, p2, p3, _⟩ := HEI7.out.node.cells
  have hlt := HEI7.out.r.lt
  have hg7 := HG7.out.lt
  rcases HOP.out with ho | ho | ho | ho
  · have h0 : (T.toList == [110, 111, 116]) = true := by rw [HT.out, ho]; exact tx_same _
    have HM : Hid (R = avB (!A1.b)) := Lib.hid (by rw [HM0.out, ho]; unfold oneA; rw [if_pos (by decide)])
    clear HM0 HOP ho HT HN5
    go_wp2_with (first | (go_at_call 80; fail))
    go_at_call 80
    refine (HTR.out _ _).mono ?_
    rintro e w8 ⟨hb8, v8, rfl, hv8⟩
    obtain ⟨hz, n8, rfl, hz2, hend⟩ := EI.fin HEI7.out HM.out hv8 hb8
    have HE := Lib.hid (And.intro hz2 hend)
    obtain ⟨k0, k1, k2, k3⟩ := hz.cells
    have f0 := hz.fr 0
    have f1 := hz.fr 1
    have f2 := hz.fr 2
    have f3 := hz.fr 3
    clear hz hz2 hend hb8 hv8
    go_wp2
    exact bodyPost_ret (val_res rfl _ _ (w.heap.size + 1) _ _ _ _ rfl HE.out.1) rfl HE.out.2
  · have h0 : (T.toList == [110, 111, 116]) = false := by rw [HT.out]; exact tx_ne (by rw [ho]; decide)
    have h1 : (T.toList == [110, 101, 103]) = true := by rw [HT.out, ho]; exact tx_same _
    have HM : Hid (R = avN (fA (n5 ^^^ 2 ^ 63))) := Lib.hid (by rw [HM0.out, ho]; unfold oneA; rw [if_neg (by decide), if_pos (by decide)]; rw [negA_neg, HN5.out])
    clear HM0 HOP ho HT HN5
    have hU : ∀ W, (Op.unary UnOp.neg (.float .f64 n5)).run Tryz.prog W = .ok (.float .f64 (n5 ^^^ 2 ^ 63)) W := fun _ => rfl
    generalize n5 ^^^ 2 ^ 63 = ng at hU HM
    go_wp2_with (first | (go_at_call 79; fail))
    go_at_call 79
    refine (HNM.out ng _).mono ?_
    rintro e w8 ⟨hb8, v8, rfl, hv8⟩
    obtain ⟨hz, n8, rfl, hz2, hend⟩ := EI.fin HEI7.out HM.out hv8 hb8
    have HE := Lib.hid (And.intro hz2 hend)
    obtain ⟨k0, k1, k2, k3⟩ := hz.cells
    have f0 := hz.fr 0
    have f1 := hz.fr 1
    have f2 := hz.fr 2
    have f3 := hz.fr 3
    clear hz hz2 hend hb8 hv8
    go_wp2
    exact bodyPost_ret (val_res rfl _ _ (w.heap.size + 1) _ _ _ _ rfl HE.out.1) rfl HE.out.2
  · have h0 : (T.toList == [110, 111, 116]) = false := by rw [HT.out]; exact tx_ne (by rw [ho]; decide)
    have h1 : (T.toList == [110, 101, 103]) = false := by rw [HT.out]; exact tx_ne (by rw [ho]; decide)
    have h2 : (T.toList == [97, 98, 115]) = true := by rw [HT.out, ho]; exact tx_same _
    have HM : Hid (R = avN (fA (n5 % 2 ^ 63))) := Lib.hid (by rw [HM0.out, ho]; unfold oneA; rw [if_neg (by decide), if_neg (by decide), if_pos (by decide)]; rw [absA_abs, HN5.out])
    clear HM0 HOP ho HT HN5
    have HAB := Lib.hid (fun W => wabsF n5 W)
    go_wp2_with (first | (go_at_call 81; refine (HAB.out _).mono ?_; rintro e w6 ⟨rfl, rfl⟩) | (go_at_call 79; fail))
    go_at_call 79
    refine (HNM.out _ _).mono ?_
    rintro e w8 ⟨hb8, v8, rfl, hv8⟩
    obtain ⟨hz, n8, rfl, hz2, hend⟩ := EI.fin HEI7.out HM.out hv8 hb8
    have HE := Lib.hid (And.intro hz2 hend)
    obtain ⟨k0, k1, k2, k3⟩ := hz.cells
    have f0 := hz.fr 0
    have f1 := hz.fr 1
    have f2 := hz.fr 2
    have f3 := hz.fr 3
    clear hz hz2 hend hb8 hv8
    go_wp2
    exact bodyPost_ret (val_res rfl _ _ (w.heap.size + 1) _ _ _ _ rfl HE.out.1) rfl HE.out.2
  · have h0 : (T.toList == [110, 111, 116]) = false := by rw [HT.out]; exact tx_ne (by rw [ho]; decide)
    have h1 : (T.toList == [110, 101, 103]) = false := by rw [HT.out]; exact tx_ne (by rw [ho]; decide)
    have h2 : (T.toList == [97, 98, 115]) = false := by rw [HT.out]; exact tx_ne (by rw [ho]; decide)
    have h3 : (T.toList == [108, 101, 110]) = true := by rw [HT.out, ho]; exact tx_same _
    have HM : Hid (R = avN (fA (floatOfInt .f64 ((clN A1.s : Nat) : Int)))) := Lib.hid (by rw [HM0.out, ho]; unfold oneA; rw [if_neg (by decide), if_neg (by decide), if_neg (by decide)]; rw [of_int])
    clear HM0 HOP ho HT HN5
    have HCN1 : Hid (Calls Tryz.prog 82 #[.string (tx A1.s)] W7 fun e w' => e = .returned (.int .i64 (clN A1.s)) ∧ Below W7.heap.size W7 w') := Lib.hid (HCN.out W7)
    generalize clN A1.s = CL at HM HCN1
    clear HCN
    go_wp2_with (first | (go_at_call 82; fail))
    go_at_call 82
    refine (HCN1.out).mono ?_
    rintro e w6 ⟨rfl, hb6⟩
    have HEI6 := Lib.hid (HEI7.out.below hb6)
    clear hb6
    go_wp2_with (first | (go_at_call 79; fail))
    go_at_call 79
    refine (HNM.out _ _).mono ?_
    rintro e w8 ⟨hb8, v8, rfl, hv8⟩
    obtain ⟨hz, n8, rfl, hz2, hend⟩ := EI.fin HEI6.out HM.out hv8 hb8
    have HE := Lib.hid (And.intro hz2 hend)
    obtain ⟨k0, k1, k2, k3⟩ := hz.cells
    have f0 := hz.fr 0
    have f1 := hz.fr 1
    have f2 := hz.fr 2
    have f3 := hz.fr 3
    clear hz hz2 hend hb8 hv8
    go_wp2
    exact bodyPost_ret (val_res rfl _ _ (w.heap.size + 1) _ _ _ _ rfl HE.out.1) rfl HE.out.2
end Go.Proofs.YtfalcmbjjlgoaaaGreatDoor
/- Walk: eval at an Op of two, and all of eval (printed by gen_sd.py). -/
namespace Go.Proofs.YtfalcmbjjlgoaaaGreatDoor
open Go.RowKit Go.Shelf Ieee
attribute [local go_sem] run_store_float
set_option maxRecDepth 100000 in
set_option maxHeartbeats 8000000 in
theorem weval_two (L : List Bnd) (vb : Value) (op s : Bs) (fn : Nat) (t0 t1 : Tree) (hop0 : op ≠ wnum) (hop1 : op ≠ wtext) (hop2 : op ≠ wname) (hn0 : op ≠ wnot) (hn1 : op ≠ wneg) (hn2 : op ≠ wabs) (hn3 : op ≠ wlen) (htk : takesT op = some 2) (A : Nat → Prop) (v : Value) (m : Int) (w : World) (hbv : BndV w vb L) (hm : MaxLn m w)
    (hlen : (evT clN L t0).s.length ≤ 900000) (HK : ∀ (v : Value) (W : World), NodeV A W v t0 → BndV W vb L → MaxLn m W → Calls Tryz.prog 59 #[v, vb] W (VEnd (evT clN L t0) W))
    (HK2 : ∀ (v : Value) (W : World), NodeV A W v t1 → BndV W vb L → MaxLn m W → Calls Tryz.prog 59 #[v, vb] W (VEnd (evT clN L t1) W)) (hv : NodeV A w v (.mk op fn s [t0, t1])) :
    Calls Tryz.prog 59 #[v, vb] w (VEnd (evT clN L (.mk op fn s [t0, t1])) w) := by
  obtain ⟨x, cap, rfl, hcap, hx, hch⟩ := hv
  obtain ⟨a, rfl⟩ : ∃ a, x = some a := by
    cases x with
    | none => have := hx rfl; cases this
    | some a => exact ⟨a, rfl⟩
  obtain ⟨hab, ⟨⟨u0, u1, u2, u3, e0, e1, e2, e3, hnode⟩, ⟨⟨y0, y1, y2, y3, e4, e5, e6, e7, hnode2⟩, _⟩⟩⟩ := hch a rfl
  replace hab := (hab (by intro e; cases e)).2
  simp only [Nat.zero_mul, Nat.zero_add, Nat.one_mul] at e0 e1 e2 e3 e4 e5 e6 e7
  rw [show a.add 0 = a from rfl] at e0
  have e1' : w.cell? ⟨a.block, a.off + 1, none⟩ = some u1 := by simpa [Addr.add] using e1
  have e2' : w.cell? ⟨a.block, a.off + 2, none⟩ = some u2 := by simpa [Addr.add] using e2
  have e3' : w.cell? ⟨a.block, a.off + 3, none⟩ = some u3 := by simpa [Addr.add] using e3
  have e4' : w.cell? ⟨a.block, a.off + 4, none⟩ = some y0 := by simpa [Addr.add] using e4
  have e5' : w.cell? ⟨a.block, a.off + 4 + 1, none⟩ = some y1 := by simpa [Addr.add] using e5
  have e6' : w.cell? ⟨a.block, a.off + 4 + 2, none⟩ = some y2 := by simpa [Addr.add] using e6
  have e7' : w.cell? ⟨a.block, a.off + 4 + 3, none⟩ = some y3 := by simpa [Addr.add] using e7
  obtain ⟨o1, n1, s1, x1, l1, c1, hag⟩ := hnode.agg
  cases hag
  obtain ⟨o2, n2, s2, x2, l2, c2, hag⟩ := hnode2.agg
  cases hag
  have HND := Lib.hid hnode
  have HND2 := Lib.hid hnode2
  have HKK := Lib.hid HK
  have HKK2 := Lib.hid HK2
  have HLEN := Lib.hid hlen
  have HEI := Lib.hid (EI.start hm (tx op) fn (tx s) (some a) 2 cap)
  have HBV := Lib.hid hbv
  obtain ⟨bx, bn, bc, rfl⟩ := hbv.agg
  obtain ⟨R, hR⟩ : ∃ R, R = evT clN L (.mk op fn s [t0, t1]) := ⟨_, rfl⟩
  rw [← hR]
  rw [evT, if_neg hop0, if_neg hop1, if_neg hop2] at hR
  have hR1 : R = twoA op (evT clN L t0) (evT clN L t1) := hR
  have HM := Lib.hid hR1
  obtain ⟨A1, hA1⟩ : ∃ x, x = evT clN L t0 := ⟨_, rfl⟩
  obtain ⟨A2, hA2⟩ : ∃ x, x = evT clN L t1 := ⟨_, rfl⟩
  rw [← hA1] at HM HKK HLEN
  rw [← hA2] at HM HKK2
  have HBO := Lib.hid (fun (va vb : Value) (W : World) h1 h2 h3 => wboth op htk va vb A1 A2 m (by have := HLEN.out; omega) W h1 h2 h3)
  have b0 : ((tx op).toList == [110, 117, 109]) = false := tx_ne hop0
  have b1 : ((tx op).toList == [116, 101, 120, 116]) = false := tx_ne hop1
  have b2 : ((tx op).toList == [110, 97, 109, 101]) = false := tx_ne hop2
  have b3 : ((tx op).toList == [110, 111, 116]) = false := tx_ne hn0
  have b4 : ((tx op).toList == [110, 101, 103]) = false := tx_ne hn1
  have b5 : ((tx op).toList == [97, 98, 115]) = false := tx_ne hn2
  have b6 : ((tx op).toList == [108, 101, 110]) = false := tx_ne hn3
  obtain ⟨T, hT⟩ : ∃ T, T = tx op := ⟨_, rfl⟩
  rw [← hT] at b0 b1 b2 b3 b4 b5 b6 HEI HBO ⊢
  clear hR hR1 hch hx hbv hm hnode hnode2 HK HK2 hlen hcap hop0 hop1 hop2 hn0 hn1 hn2 hn3 htk hA1 hA2 hT e1 e2 e3 e4 e5 e6 e7
  show Calls Tryz.prog 59 #[.agg #[.string T, .float .f64 fn, .string (tx s), .slice (some a) 2 cap], .slice bx bn bc] w (VEnd R w)
  go_enter Tryz.func59, Tryz.ntmps59
  go_upto_region 1 with (fail)
  generalize ((w.alloc (.cells #[.string T, .float .f64 fn, .string (tx s), .slice (some a) 2 cap] 25)).alloc (.cells #[.int .i64 0, .float .f64 0, .string ⟨#[]⟩, .bool false] 51)) = W0 at HEI ⊢
  obtain ⟨p0, p1, p2, p3, _⟩ := HEI.out.node.cells
  have hlt := HEI.out.r.lt
  have hs : W0.heap[a.block]? = w.heap[a.block]? := HEI.out.bel.block _ hab
  have d0 := cell_same hs e0
  have d1 := cell_same (a := ⟨a.block, a.off + 1, none⟩) hs e1'
  have d2 := cell_same (a := ⟨a.block, a.off + 2, none⟩) hs e2'
  have d3 := cell_same (a := ⟨a.block, a.off + 3, none⟩) hs e3'
  clear e0 e1' e2' e3' hs
  go_wp2_with (first | (go_at_call 59; fail))
  refine (HKK.out _ W0 (HND.out.below HEI.out.bel) (HBV.out.below HEI.out.bel) HEI.out.mx).mono ?_
  rintro e w5 ⟨hb5, v5, rfl, n5, rfl, hn5⟩
  have HEI7 := Lib.hid ((HEI.out.below hb5).below ((Below.refl w5.heap.size w5).alloc (Nat.le_refl _) (.cells #[.int .i64 A1.t, .float .f64 n5, .string (tx A1.s), .bool A1.b] 51)))
  have HG7 : Hid (VB (w5.alloc (.cells #[.int .i64 A1.t, .float .f64 n5, .string (tx A1.s), .bool A1.b] 51)) w5.heap.size (.int .i64 A1.t) (.float .f64 n5) (.string (tx A1.s)) (.bool A1.b)) := Lib.hid (heap_alloc_new _ _)
  have HN5 := Lib.hid hn5
  have hlt5 : w.heap.size + 1 < w5.heap.size := by have := hb5.size; omega
  clear hb5 d0 d1 d2 d3 p0 p1 p2 p3 HEI HKK HND hn5 hlt
  go_upto_region 10 with (fail)
  generalize (w5.alloc (.cells #[.int .i64 A1.t, .float .f64 n5, .string (tx A1.s), .bool A1.b] 51)) = W7 at HEI7 HG7 ⊢
  generalize w5.heap.size = g7 at HG7 hlt5 ⊢
  have hg7 := HG7.out.lt
  have hlt := HEI7.out.r.lt
  have HSS : Hid (∀ W : World, (∀ b, b < W7.heap.size → b ≠ w.heap.size + 1 → W.heap[b]? = W7.heap[b]?) → W.cell? ⟨w.heap.size, 0, none⟩ = some (.string T) ∧ W.cell? ⟨w.heap.size, 3, none⟩ = some (.slice (some a) 2 cap) ∧ W.cell? ⟨g7, 0, none⟩ = some (.int .i64 A1.t) ∧ W.cell? ⟨g7, 1, none⟩ = some (.float .f64 n5) ∧ W.cell? ⟨g7, 2, none⟩ = some (.string (tx A1.s)) ∧ W.cell? ⟨g7, 3, none⟩ = some (.bool A1.b) ∧ W.cell? ⟨a.block, a.off + 4, none⟩ = some (.string o2) ∧ W.cell? ⟨a.block, a.off + 4 + 1, none⟩ = some (.float .f64 n2) ∧ W.cell? ⟨a.block, a.off + 4 + 2, none⟩ = some (.string s2) ∧ W.cell? ⟨a.block, a.off + 4 + 3, none⟩ = some (.slice x2 l2 c2)) := Lib.hid (fun W hW => by
    obtain ⟨p0, p1, p2, p3, _⟩ := HEI7.out.node.cells
    obtain ⟨q0, q1, q2, q3⟩ := HG7.out.cells
    have hnl := HEI7.out.node.lt
    have k1 : W.heap[w.heap.size]? = W7.heap[w.heap.size]? := hW _ hnl (by omega)
    have k2 : W.heap[g7]? = W7.heap[g7]? := hW _ hg7 (by omega)
    have k3 : W.heap[a.block]? = w.heap[a.block]? := (hW _ (by omega) (by omega)).trans (HEI7.out.bel.block _ hab)
    exact ⟨cell_same (a := ⟨w.heap.size, 0, none⟩) k1 p0, cell_same (a := ⟨w.heap.size, 3, none⟩) k1 p3, cell_same (a := ⟨g7, 0, none⟩) k2 q0, cell_same (a := ⟨g7, 1, none⟩) k2 q1, cell_same (a := ⟨g7, 2, none⟩) k2 q2, cell_same (a := ⟨g7, 3, none⟩) k2 q3,
      cell_same (a := ⟨a.block, a.off + 4, none⟩) k3 e4', cell_same (a := ⟨a.block, a.off + 4 + 1, none⟩) k3 e5', cell_same (a := ⟨a.block, a.off + 4 + 2, none⟩) k3 e6', cell_same (a := ⟨a.block, a.off + 4 + 3, none⟩) k3 e7'⟩)
  obtain ⟨p0, p3, q0, q1, q2, q3, d4, d5, d6, d7⟩ := HSS.out W7 (fun _ _ _ => rfl)
  have HS0 := Lib.hid (HSS.out W7.drew (fun _ _ _ => rfl))
  clear e4' e5' e6' e7'
  go_wp2_with fail
  refine wp_region_held (S := (fun w' => w'.cell? ⟨w.heap.size, 0, none⟩ = some (.string T) ∧ w'.cell? ⟨w.heap.size, 3, none⟩ = some (.slice (some a) 2 cap) ∧ w'.cell? ⟨g7, 0, none⟩ = some (.int .i64 A1.t) ∧ w'.cell? ⟨g7, 1, none⟩ = some (.float .f64 n5) ∧ w'.cell? ⟨g7, 2, none⟩ = some (.string (tx A1.s)) ∧ w'.cell? ⟨g7, 3, none⟩ = some (.bool A1.b) ∧ w'.cell? ⟨a.block, a.off + 4, none⟩ = some (.string o2) ∧ w'.cell? ⟨a.block, a.off + 4 + 1, none⟩ = some (.float .f64 n2) ∧ w'.cell? ⟨a.block, a.off + 4 + 2, none⟩ = some (.string s2) ∧ w'.cell? ⟨a.block, a.off + 4 + 3, none⟩ = some (.slice x2 l2 c2))) (by kernel_rfl) ?_
  change wpAnyH _ _ _ _ _ _ _ _ (World.drew _)
  refine wpAnyH_take (i := 0) (v := _) rfl (by kernel_rfl) (by kernel_rfl) (by kernel_rfl) (fun _ _ _ h => h) (Or.inl ⟨by rfl, by intro w hSw; (try dsimp only at hSw); go_simp; try (with_reducible rfl)⟩) HS0.out ?_
  try simp only [Act.put, List.setIfInBounds_toArray]
  refine wpAnyH_take (i := 1) (v := _) rfl (by kernel_rfl) (by kernel_rfl) (by kernel_rfl) (fun _ _ _ h => h) (Or.inl ⟨by rfl, by intro w hSw; (try dsimp only at hSw); go_simp; try (with_reducible rfl)⟩) HS0.out ?_
  try simp only [Act.put]
  refine wpAnyH_take (i := 2) (v := _) rfl (by kernel_rfl) (by kernel_rfl) (by kernel_rfl) (fun _ _ _ h => h) (Or.inl ⟨by rfl, by intro w hSw; (try dsimp only at hSw); go_simp; try (with_reducible rfl)⟩) HS0.out ?_
  try simp only [Act.put]
  refine wpAnyH_take (i := 3) (v := _) rfl (by kernel_rfl) (by kernel_rfl) (by kernel_rfl) (fun _ _ _ h => h) (Or.inl ⟨by rfl, by intro w hSw; (try dsimp only at hSw); go_simp; try (with_reducible rfl)⟩) HS0.out ?_
  try simp only [Act.put]
  refine wpAnyH_take (i := 4) (v := _) rfl (by kernel_rfl) (by kernel_rfl) (by kernel_rfl) (fun _ _ _ h => h) (Or.inl ⟨by rfl, by intro w hSw; (try dsimp only at hSw); go_simp; try (with_reducible rfl)⟩) HS0.out ?_
  try simp only [Act.put]
  refine wpAnyH_take (i := 5) (v := _) rfl (by kernel_rfl) (by kernel_rfl) (by kernel_rfl) (fun _ _ _ h => h) (Or.inl ⟨by rfl, by intro w hSw; (try dsimp only at hSw); go_simp; try (with_reducible rfl)⟩) HS0.out ?_
  try simp only [Act.put]
  refine wpAnyH_take (i := 6) (v := _) rfl (by kernel_rfl) (by kernel_rfl) (by kernel_rfl) (fun _ _ _ h => h) (Or.inl ⟨by rfl, by intro w hSw; (try dsimp only at hSw); go_simp; try (with_reducible rfl)⟩) HS0.out ?_
  try simp only [Act.put]
  refine wpAnyH_take (i := 7) (v := _) rfl (by kernel_rfl) (by kernel_rfl) (by kernel_rfl) (fun _ _ _ h => h) (Or.inl ⟨by rfl, by intro w hSw; (try dsimp only at hSw); go_simp; try (with_reducible rfl)⟩) HS0.out ?_
  try simp only [Act.put]
  refine wpAnyH_ready (rs := [8]) (by kernel_rfl) (by simp) ?_
  refine AllReadyH.cons rfl (fun K hK => ?_) AllReadyH.nil
  go_simp
  go_wp2_with (first | (go_at_call 59; fail))
  have HEI8 := Lib.hid (HEI7.out.below (Below.refl _ _).drew)
  refine (HKK2.out _ W7.drew (HND2.out.below HEI8.out.bel) (HBV.out.below HEI8.out.bel) HEI8.out.mx).mono ?_
  rintro e w8 ⟨hb8, v8, rfl, n8, rfl, hn8⟩
  have HEI9 := Lib.hid (HEI8.out.below hb8)
  have HS8 := Lib.hid (HSS.out w8 (fun b h1 _ => hb8.block b h1))
  have HN8 := Lib.hid hn8
  have HL8 : Hid (∀ b, b < W7.heap.size → b < w8.heap.size ∧ w8.heap[b]? = W7.heap[b]?) := Lib.hid (fun b h => by
    have h1 : W7.heap.size ≤ w8.heap.size := hb8.size
    exact ⟨by omega, hb8.block b h⟩)
  clear hb8 hn8 HEI8 HEI7 HKK2 HND2 HBV
  refine hK.out _ _ HS8.out (fun _ => ?_)
  clear hK K
  try simp only [Act.put, List.setIfInBounds_toArray, List.set_cons_zero, List.set_cons_succ]
  refine wpAnyH_ready (rs := [9]) (by kernel_rfl) (by simp) ?_
  refine AllReadyH.cons rfl (fun K hK => ?_) AllReadyH.nil
  go_simp
  go_wp2_with (first | (go_at_call 83; fail))
  refine (HBO.out _ _ w8 ⟨n5, rfl, HN5.out⟩ ⟨n8, rfl, HN8.out⟩ HEI9.out.mx).mono ?_
  rintro e w9 ⟨hb9, v9, rfl, hv9⟩
  obtain ⟨hz, n9, rfl, hz2, hend⟩ := EI.fin HEI9.out HM.out hv9 hb9
  have HE := Lib.hid (And.intro hz2 hend)
  have HS9 := Lib.hid (HSS.out w9 (fun b h1 _ => (hb9.block b (HL8.out b h1).1).trans (HL8.out b h1).2))
  have HS10 := Lib.hid (fun u0 u1 u2 u3 => HSS.out (putN w9 (w.heap.size + 1) u0 u1 u2 u3) (fun b h1 h2 => (putN_other h2).trans ((hb9.block b (HL8.out b h1).1).trans (HL8.out b h1).2)))
  obtain ⟨k0, k1, k2, k3⟩ := hz.cells
  have f0 := hz.fr 0
  have f1 := hz.fr 1
  have f2 := hz.fr 2
  have f3 := hz.fr 3
  clear hz hz2 hend hb9 hv9
  refine hK.out _ _ HS9.out (fun _ => ?_)
  clear hK K
  try simp only [Act.put, List.setIfInBounds_toArray, List.set_cons_zero, List.set_cons_succ]
  refine wpAnyH_ready (rs := [10]) (by kernel_rfl) (by simp) ?_
  refine AllReadyH.cons rfl (fun K hK => ?_) AllReadyH.nil
  go_simp
  refine hK.out _ _ (HS10.out _ _ _ _) (fun _ => ?_)
  clear hK K
  try simp only [Act.put, List.setIfInBounds_toArray, List.set_cons_zero, List.set_cons_succ]
  refine wpAnyH_done (by kernel_rfl) ?_ _
  go_wp2
  exact bodyPost_ret (val_res rfl _ _ (w.heap.size + 1) _ _ _ _ rfl HE.out.1) rfl HE.out.2
/-- The value of a tree that has a type. -/
theorem weval (L : List Bnd) (hLL : L.length ≤ 1000000) (hLS : ∀ b ∈ L, b.v.s.length ≤ 900000) (vb : Value) (m : Int) : ∀ (n : Nat) (t : Tree), szT t ≤ n → (tyT L t).2 = 0 → txT 900000 t → ∀ (A : Nat → Prop) (v : Value) (w : World), NodeV A w v t → BndV w vb L → MaxLn m w →
    Calls Tryz.prog 59 #[v, vb] w (VEnd (evT clN L t) w) := by
  intro n
  induction n with
  | zero => intro t h; cases t; simp only [szT] at h; omega
  | succ n ih =>
    intro t hn hty htx A v w hv hbv hm
    obtain ⟨op, fn, s, l⟩ := t
    by_cases hop : op = wnum ∨ op = wtext ∨ op = wname
    · exact weval_leaf L hLL vb op s fn l hty hop A v m w hv hbv hm
    · obtain ⟨h1, h2, _⟩ := ty_ok hty
      have hszl : szL l ≤ n := by simp only [szT] at hn; omega
      rcases takes_12t h1 (fun e => hop (.inl e)) (fun e => hop (.inr (.inl e))) (fun e => hop (.inr (.inr e))) with ⟨hl, ho⟩ | ⟨hl, g0, g1, g2, g3⟩
      · match l, hl with
        | [t0], _ =>
          simp only [szL] at hszl
          have k0 : txT 900000 t0 := htx.2.1
          exact weval_one L vb op s fn t0 (fun e => hop (.inl e)) (fun e => hop (.inr (.inl e))) (fun e => hop (.inr (.inr e))) ho A v m w hbv hm (ev_len clN hLS k0) (fun v W a b c => ih t0 (by omega) (h2 0 (by simp)) k0 A v W a b c) hv
      · match l, hl with
        | [t0, t1], _ =>
          simp only [szL] at hszl
          have k0 : txT 900000 t0 := htx.2.1
          have k1 : txT 900000 t1 := htx.2.2.1
          exact weval_two L vb op s fn t0 t1 (fun e => hop (.inl e)) (fun e => hop (.inr (.inl e))) (fun e => hop (.inr (.inr e))) g0 g1 g2 g3 h1 A v m w hbv hm (ev_len clN hLS k0) (fun v W a b c => ih t0 (by omega) (h2 0 (by simp)) k0 A v W a b c) (fun v W a b c => ih t1 (by omega) (h2 1 (by simp)) k1 A v W a b c) hv
end Go.Proofs.YtfalcmbjjlgoaaaGreatDoor
/- The texts in what is parsed are not longer than the text; plain. -/
namespace Go.Proofs.YtfalcmbjjlgoaaaGreatDoor
open Go.RowKit Go.Shelf
def TK (k : Nat) (ts : List Tok) : Prop := ∀ t ∈ ts, t.s.length ≤ k
theorem TK.tail {k : Nat} {t : Tok} {r : List Tok} (h : TK k (t :: r)) : TK k r := fun u hu => h u (by simp [hu])
theorem TK.head {k : Nat} {t : Tok} {r : List Tok} (h : TK k (t :: r)) : t.s.length ≤ k := h t (by simp)
theorem adv_tk {ok : Bool} {ts r : List Tok} {k : Nat} (h : adv ok ts = some r) (hk : TK k ts) : TK k r := by
  unfold adv at h
  split at h
  · cases h
  · split at h
    · cases h
    · cases h; exact hk.tail
theorem must_tk {ok : Bool} {s : Bs} {ts r : List Tok} {k : Nat} (h : must ok s ts = some r) (hk : TK k ts) : TK k r := by
  unfold must at h
  split at h
  · exact adv_tk h hk
  · cases h
theorem tx_two {k : Nat} {op : Bs} {a b : Tree} (ha : txT k a) (hb : txT k b) : txT k (two op a b) := ⟨Nat.zero_le k, ha, hb, trivial⟩
theorem tx_one {k : Nat} {op : Bs} {a : Tree} (ha : txT k a) : txT k (one op a) := ⟨Nat.zero_le k, ha, trivial⟩
theorem tx_leaf {k : Nat} {op s : Bs} {n : Nat} (h : s.length ≤ k) : txT k (.mk op n s []) := ⟨h, trivial⟩
def TxC (k : Nat) (R : List Tok → Option (Tree × List Tok)) : Prop := ∀ ts a r, R ts = some (a, r) → TK k ts → txT k a ∧ TK k r
theorem inside_tx {k : Nat} {ok : Bool} {R : List Tok → Option (Tree × List Tok)} {ts r : List Tok} {a : Tree} (hR : TxC k R) (h : inside ok R ts = some (a, r)) (hk : TK k ts) : txT k a ∧ TK k r := by
  unfold inside at h
  split at h
  · cases h
  · rename_i t1 h1
    split at h
    · cases h
    · rename_i a2 t2 h2
      split at h
      · cases h
      · rename_i t3 h3
        cases h
        have g := hR _ _ _ h2 (must_tk h1 hk)
        exact ⟨g.1, must_tk h3 g.2⟩
theorem hasP_tx {k : Nat} {ok : Bool} {R : List Tok → Option (Tree × List Tok)} {ts r : List Tok} {a : Tree} (hR : TxC k R) (h : hasP ok R ts = some (a, r)) (hk : TK k ts) : txT k a ∧ TK k r := by
  unfold hasP at h
  split at h
  · cases h
  · rename_i t1 h1
    split at h
    · cases h
    · rename_i a2 t2 h2
      split at h
      · cases h
      · rename_i t3 h3
        split at h
        · cases h
        · rename_i b t4 h4
          split at h
          · cases h
          · rename_i t5 h5
            cases h
            have g := hR _ _ _ h2 (must_tk h1 hk)
            have g2 := hR _ _ _ h4 (must_tk h3 g.2)
            exact ⟨tx_two g.1 g2.1, must_tk h5 g2.2⟩
def Mode.tx (k : Nat) : Mode → Prop
  | .orT t | .andT t | .sumT t | .prodT t => txT k t
  | _ => True
theorem P_tx (V : Bs → Nat) (ok : Bool) (k : Nat) : ∀ (n : Nat) (m : Mode) (ts : List Tok) (a : Tree) (r : List Tok), P V ok n m ts = some (a, r) → TK k ts → m.tx k → txT k a ∧ TK k r := by
  intro n
  induction n with
  | zero => intro m ts a r h; cases h
  | succ n ih =>
    have chain : ∀ (m1 : Mode) (m2 : Tree → Mode) (ts r : List Tok) (a : Tree), m1.tx k → (∀ t, txT k t → (m2 t).tx k) → (match P V ok n m1 ts with | none => none | some (a, r) => P V ok n (m2 a) r) = some (a, r) → TK k ts → txT k a ∧ TK k r := by
      intro m1 m2 ts r a hm hm2 h hk
      split at h
      · cases h
      · rename_i b t1 h1
        have g := ih _ _ _ _ h1 hk hm
        exact ih _ _ _ _ h g.2 (hm2 _ g.1)
    have tailr : ∀ (c : Prop) [Decidable c] (m1 : Mode) (m2 : Tree → Mode) (ts r : List Tok) (a x : Tree), m1.tx k → (∀ t, txT k t → (m2 t).tx k) → (if c then (match adv ok ts with | none => none | some t1 => match P V ok n m1 t1 with | none => none | some (b, r) => P V ok n (m2 b) r) else some (x, ts)) = some (a, r) → TK k ts → txT k x → txT k a ∧ TK k r := by
      intro c _ m1 m2 ts r a x hm hm2 h hk hx
      split at h
      · split at h
        · cases h
        · rename_i t1 h1
          split at h
          · cases h
          · rename_i b t2 h2
            have g := ih _ _ _ _ h2 (adv_tk h1 hk) hm
            exact ih _ _ _ _ h g.2 (hm2 _ g.1)
      · cases h; exact ⟨hx, hk⟩
    have hor : TxC k (P V ok n .or) := fun ts a r h hk => ih _ _ _ _ h hk trivial
    intro m ts a r h hk hm
    cases m with
    | or => exact chain .and Mode.orT ts r a trivial (fun _ h => h) (by have h' := h; simp only [P] at h'; exact h') hk
    | and => exact chain .not Mode.andT ts r a trivial (fun _ h => h) (by have h' := h; simp only [P] at h'; exact h') hk
    | sum => exact chain .prod Mode.sumT ts r a trivial (fun _ h => h) (by have h' := h; simp only [P] at h'; exact h') hk
    | prod => exact chain .signed Mode.prodT ts r a trivial (fun _ h => h) (by have h' := h; simp only [P] at h'; exact h') hk
    | orT x => exact tailr _ .and (fun b => Mode.orT (two wor x b)) ts r a x trivial (fun t h => tx_two (op := wor) hm h) (by have h' := h; simp only [P] at h'; exact h') hk hm
    | andT x => exact tailr _ .not (fun b => Mode.andT (two wand x b)) ts r a x trivial (fun t h => tx_two (op := wand) hm h) (by have h' := h; simp only [P] at h'; exact h') hk hm
    | sumT x => exact tailr _ .prod (fun b => Mode.sumT (two ((ts.headD ⟨0, []⟩).s) x b)) ts r a x trivial (fun t h => tx_two (op := ((ts.headD ⟨0, []⟩).s)) hm h) (by have h' := h; simp only [P] at h'; exact h') hk hm
    | prodT x => exact tailr _ .signed (fun b => Mode.prodT (two ((ts.headD ⟨0, []⟩).s) x b)) ts r a x trivial (fun t h => tx_two (op := ((ts.headD ⟨0, []⟩).s)) hm h) (by have h' := h; simp only [P] at h'; exact h') hk hm
    | not =>
      simp only [P] at h
      split at h
      · split at h
        · cases h
        · rename_i t1 h1
          split at h
          · cases h
          · rename_i b t2 h2
            cases h
            have g := ih _ _ _ _ h2 (adv_tk h1 hk) trivial
            exact ⟨tx_one g.1, g.2⟩
      · split at h
        · cases h
        · rename_i b t2 h2
          have g2 := ih _ _ _ _ h2 hk trivial
          split at h
          · cases h; exact g2
          · split at h
            · split at h
              · cases h
              · rename_i t3 h3
                split at h
                · cases h
                · rename_i c t4 h4
                  cases h
                  have g := ih _ _ _ _ h4 (adv_tk h3 g2.2) trivial
                  exact ⟨tx_two g2.1 g.1, g.2⟩
            · cases h; exact g2
    | signed =>
      simp only [P] at h
      split at h
      · split at h
        · cases h
        · rename_i t1 h1
          split at h
          · cases h
          · rename_i b t2 h2
            cases h
            have g := ih _ _ _ _ h2 (adv_tk h1 hk) trivial
            exact ⟨tx_one g.1, g.2⟩
      · exact ih _ _ _ _ h hk trivial
    | atom =>
      cases ts with
      | nil => simp only [P] at h; cases h
      | cons t ts =>
        rw [P_atom] at h
        split at h
        · split at h
          · cases h
          · rename_i t1 h1
            cases h
            exact ⟨tx_leaf (Nat.zero_le k), adv_tk h1 hk⟩
        · split at h
          · split at h
            · cases h
            · rename_i t1 h1
              cases h
              exact ⟨tx_leaf hk.head, adv_tk h1 hk⟩
          · split at h
            · unfold namedP at h
              split at h
              · cases h
              · split at h
                · cases h
                · rename_i t1 h1
                  split at h
                  · split at h
                    · cases h
                    · rename_i b t2 h2
                      cases h
                      have g := inside_tx hor h2 (adv_tk h1 hk)
                      exact ⟨tx_one g.1, g.2⟩
                  · split at h
                    · exact hasP_tx hor h (adv_tk h1 hk)
                    · cases h
                      exact ⟨tx_leaf hk.head, adv_tk h1 hk⟩
            · exact inside_tx hor h hk
theorem lex1_tx {l : Bs} {t : Tok} {n : Nat} (h : lex1 l = some (t, n)) : t.s.length ≤ l.length := by
  cases l with
  | nil => cases h
  | cons c r =>
    simp only [lex1] at h
    split at h
    · split at h
      · cases h; simp only [List.length_take]; omega
      · cases h
    · split at h
      · cases h; simp only [List.length_take]; omega
      · split at h
        · split at h
          · cases h; simp only [List.length_take, List.length_cons]; omega
          · cases h
        · split at h
          · cases h; simp only [List.length_take]; omega
          · split at h
            · cases h; simp only [List.length_take]; omega
            · cases h
theorem lexF_tx : ∀ (n : Nat) (l : Bs), TK l.length (lexF n l).1
  | 0, _ => fun t h => by cases h
  | n + 1, l => by
    simp only [lexF]
    split
    · intro t h; cases h
    · cases hq : lex1 (l.drop (cntBl l)) with
      | none => intro t h; cases h
      | some x =>
        obtain ⟨t, k⟩ := x
        have h1 := lex1_tx hq
        have h2 := lexF_tx n ((l.drop (cntBl l)).drop k)
        intro u hu
        rcases List.mem_cons.1 hu with rfl | hu
        · simp only [List.length_drop] at h1; omega
        · have h3 := h2 u hu
          simp only [List.length_drop] at h3
          omega
theorem parse_tx (l : Bs) : txT l.length (parseP l).1 := by
  have hz : txT l.length zeroT := ⟨Nat.zero_le _, trivial⟩
  unfold parseP
  split
  · exact hz
  · cases hr : readP l with
    | none => exact hz
    | some t =>
      have ht : txT l.length t := by
        unfold readP at hr
        split at hr
        · cases hr
        · split at hr
          · rename_i t2 h2
            cases hr
            exact (P_tx _ _ _ _ _ _ _ _ h2 (lexF_tx _ l) trivial).1
          · cases hr
      simp only
      split
      · exact hz
      · exact ht
theorem parse_sz (l : Bs) : szT (parseP l).1 ≤ l.length + 1 := by
  have hz : szT zeroT ≤ l.length + 1 := by simp [zeroT, szT, szL]
  unfold parseP
  split
  · exact hz
  · cases hr : readP l with
    | none => exact hz
    | some t =>
      have := readP_sz hr
      simp only
      split
      · exact hz
      · show szT t ≤ _; omega
theorem tx_mono {k j : Nat} (h : k ≤ j) : ∀ t : Tree, txT k t → txT j t := by
  have key : ∀ n, ∀ t : Tree, szT t ≤ n → txT k t → txT j t := by
    intro n
    induction n with
    | zero => intro t ht; cases t; simp only [szT] at ht; omega
    | succ n ih =>
      intro t ht hx
      obtain ⟨op, fn, s, l⟩ := t
      have hl : szL l ≤ n := by simp only [szT] at ht; omega
      have hrow : ∀ l : List Tree, szL l ≤ n → txL k l → txL j l := fun l => by
        induction l with
        | nil => intro _ _; trivial
        | cons a r ihl =>
          intro h1 h2
          simp only [szL] at h1
          exact ⟨ih a (by omega) h2.1, ihl (by omega) h2.2⟩
      exact ⟨Nat.le_trans hx.1 h, hrow l hl hx.2⟩
  exact fun t => key _ t (Nat.le_refl _)
end Go.Proofs.YtfalcmbjjlgoaaaGreatDoor
/- Walks: Eval, Holds. -/
namespace Go.Proofs.YtfalcmbjjlgoaaaGreatDoor
open Go.RowKit Go.Shelf Ieee
attribute [local go_sem] run_store_float
/-- What Eval gives. -/
def evP (L : List Bnd) (t : Tree) : Av := if (tyP L t).2 = 0 then evT clN L t else av0
/-- What Holds gives. -/
def hoP (L : List Bnd) (l : Bs) : Bool × Nat :=
  if (parseP l).2 ≠ 0 then (false, (parseP l).2)
  else if (tyP L (parseP l).1).2 ≠ 0 then (false, (tyP L (parseP l).1).2)
  else if (evT clN L (parseP l).1).t ≠ 3 then (false, 1) else ((evT clN L (parseP l).1).b, 0)
/-- Binds that are few and short. -/
def BOk (L : List Bnd) : Prop := L.length ≤ 1000000 ∧ ∀ b ∈ L, b.v.s.length ≤ 900000
theorem tyP_ok {L : List Bnd} {t : Tree} (h : (tyP L t).2 = 0) : (tyT L t).2 = 0 := by
  unfold tyP at h
  split at h
  · cases h
  · exact h
set_option maxRecDepth 100000 in
set_option maxHeartbeats 8000000 in
theorem wEval (L : List Bnd) (hL : BOk L) (vb : Value) (t : Tree) (hz : szT t ≤ 1000000) (hx : txT 900000 t) (A : Nat → Prop) (v : Value) (m : Int) (w : World) (hv : NodeV A w v t) (hbv : BndV w vb L) (hm : MaxLn m w) :
    Calls Tryz.prog 40 #[v, vb] w fun e w' => ∃ u, e = .returned (.tuple #[u, .int .i64 ((tyP L t).2 : Nat)]) ∧ ValV u (evP L t) ∧ Below w.heap.size w w' := by
  have HTO := Lib.hid (fun W (h : NodeV A W v t) (k : BndV W vb L) => wtypeOf L hL.1 vb t A v W hz h k)
  have HEV := Lib.hid (fun (h0 : (tyT L t).2 = 0) W (h : NodeV A W v t) (k : BndV W vb L) (q : MaxLn m W) => weval L hL.1 hL.2 vb m _ t (Nat.le_refl _) h0 hx A v W h k q)
  have HV := Lib.hid hv
  have HBV := Lib.hid hbv
  obtain ⟨o, n, s, x, l, c, rfl⟩ := hv.agg
  obtain ⟨bx, bn, bc, rfl⟩ := hbv.agg
  have HEI := Lib.hid (EI.start hm o n s x l c)
  obtain ⟨R, hR⟩ : ∃ R, R = evP L t := ⟨_, rfl⟩
  rw [← hR]
  unfold evP at hR
  have HOK := Lib.hid (fun (h : (tyP L t).2 = 0) => tyP_ok h)
  obtain ⟨T, hT⟩ : ∃ T, T = tyP L t := ⟨_, rfl⟩
  rw [← hT] at hR HTO HOK ⊢
  obtain ⟨T1, T2⟩ := T
  simp only at hR
  have HR := Lib.hid hR
  clear hv hbv hz hx hm hL hR hT
  go_enter Tryz.func40, Tryz.ntmps40
  go_upto_region 1 with (fail)
  generalize ((w.alloc (.cells #[.string o, .float .f64 n, .string s, .slice x l c] 25)).alloc (.cells #[.int .i64 0, .float .f64 0, .string ⟨#[]⟩, .bool false] 51)) = W0 at HEI ⊢
  obtain ⟨p0, p1, p2, p3, _⟩ := HEI.out.node.cells
  have hlt := HEI.out.r.lt
  go_wp2_with (first | (go_at_call 13; fail))
  refine (HTO.out W0 (HV.out.below HEI.out.bel) (HBV.out.below HEI.out.bel)).mono ?_
  rintro e w2 ⟨rfl, hb2⟩
  have HEI2 := Lib.hid (HEI.out.below hb2)
  clear hb2 p0 p1 p2 p3 HEI HTO
  obtain ⟨p0, p1, p2, p3, _⟩ := HEI2.out.node.cells
  obtain ⟨k0, k1, k2, k3⟩ := HEI2.out.r.cells
  have hlt := HEI2.out.r.lt
  have f0 := HEI2.out.r.fr 0
  have f1 := HEI2.out.r.fr 1
  have f2 := HEI2.out.r.fr 2
  have f3 := HEI2.out.r.fr 3
  by_cases q : T2 = 0
  · have HM : Hid (R = evT clN L t) := Lib.hid (by rw [HR.out, if_pos q])
    have HEV1 := Lib.hid (HEV.out (HOK.out q))
    subst q
    clear HR HOK HEV
    go_wp2_with (first | (go_at_call 59; fail))
    go_at_call 59
    refine (HEV1.out w2 (HV.out.below HEI2.out.bel) (HBV.out.below HEI2.out.bel) HEI2.out.mx).mono ?_
    rintro e w5 ⟨hb5, v5, rfl, hv5⟩
    obtain ⟨hz, n5, rfl, hz2, hend⟩ := EI.fin HEI2.out HM.out hv5 hb5
    have HE := Lib.hid (And.intro hz2 hend)
    clear k0 k1 k2 k3 f0 f1 f2 f3
    obtain ⟨k0, k1, k2, k3⟩ := hz.cells
    have f0 := hz.fr 0
    have f1 := hz.fr 1
    have f2 := hz.fr 2
    have f3 := hz.fr 3
    clear hz hz2 hend hb5 hv5
    go_wp2
    refine bodyPost_ret (results_cell_tmp rfl _ _ (w.heap.size + 1) 51 _ _ _ rfl HE.out.1 Tryz.underlying51 rfl (by kernel_rfl)) rfl ?_
    obtain ⟨h1, u, h2, h3⟩ := HE.out.2
    cases h2
    exact ⟨_, rfl, h3, h1⟩
  · have HM : Hid (R = av0) := Lib.hid (by rw [HR.out, if_neg q])
    have q1 : ((T2 : Int) == 0) = false := by simpa using (show ¬ ((T2 : Int) = 0) by omega)
    have HE := Lib.hid (EI.put HEI2.out HM.out (n := 0) fA_zero 0 rfl ⟨#[]⟩ rfl false rfl (.cells #[] 0)).1
    clear HR HOK HEV
    go_wp2
    refine bodyPost_ret (results_cell_tmp rfl _ _ (w.heap.size + 1) 51 _ _ _ rfl HE.out.1 Tryz.underlying51 rfl (by kernel_rfl)) rfl ?_
    obtain ⟨h1, u, h2, h3⟩ := HE.out.2
    cases h2
    exact ⟨_, rfl, h3, h1⟩
set_option maxRecDepth 100000 in
set_option maxHeartbeats 8000000 in
theorem wHolds (L : List Bnd) (hL : BOk L) (vb : Value) (l : Bs) (hl : l.length ≤ 100000) (m : Int) (w : World) (hbv : BndV w vb L) (hm : MaxLn m w) :
    Calls Tryz.prog 23 #[.string (tx l), vb] w fun e w' => e = .returned (.tuple #[.bool (hoP L l).1, .int .i64 ((hoP L l).2 : Nat)]) ∧ Below w.heap.size w w' := by
  have HP := Lib.hid (wparse l (by omega) w)
  have HEV := Lib.hid (fun (A : Nat → Prop) v W (h : NodeV A W v (parseP l).1) (k : BndV W vb L) (q : MaxLn m W) => wEval L hL vb (parseP l).1 (by have := parse_sz l; omega) (tx_mono (by omega) _ (parse_tx l)) A v m W h k q)
  have HBV := Lib.hid hbv
  have HMX := Lib.hid hm
  obtain ⟨bx, bn, bc, rfl⟩ := hbv.agg
  obtain ⟨R, hR⟩ : ∃ R, R = hoP L l := ⟨_, rfl⟩
  rw [← hR]
  unfold hoP at hR
  unfold ParseEnd at HP
  unfold evP at HEV
  obtain ⟨T, hT⟩ : ∃ T, T = tyP L (parseP l).1 := ⟨_, rfl⟩
  rw [← hT] at hR HEV
  generalize evT clN L (parseP l).1 = E at hR HEV
  obtain ⟨Q, hQ⟩ : ∃ Q, Q = parseP l := ⟨_, rfl⟩
  rw [← hQ] at hR HP HEV
  obtain ⟨Q1, Q2⟩ := Q
  obtain ⟨T1, T2⟩ := T
  simp only at hR HP HEV
  have HR := Lib.hid hR
  clear hbv hm hL hl hR hT hQ
  go_enter Tryz.func23, Tryz.ntmps23
  go_wp2_with (first | (go_at_call 5; fail))
  go_at_call 5
  refine (HP.out).mono ?_
  rintro e w2 ⟨v2, rfl, hv2, hb2⟩
  obtain ⟨o, n, s, x, k, c, rfl⟩ := hv2.agg
  have hal : Below w2.heap.size w2 (w2.alloc (.cells #[.string o, .float .f64 n, .string s, .slice x k c] 25)) := (Below.refl _ _).alloc (Nat.le_refl _) _
  have HB3 := Lib.hid (hb2.trans (below_le hal hb2.size))
  have HN3 := Lib.hid (hv2.below hal)
  clear hb2 hv2 hal
  by_cases q : Q2 = 0
  · subst q
    have HR1 : Hid (R = if T2 ≠ 0 then (false, T2) else if E.t ≠ 3 then (false, 1) else (E.b, 0)) := Lib.hid (by rw [HR.out, if_neg (by simp)])
    clear HR
    go_wp2_with (first | (go_at_call 40; fail))
    go_at_call 40
    refine (HEV.out _ _ _ HN3.out (HBV.out.below HB3.out) (HMX.out.below HB3.out)).mono ?_
    rintro e w5 ⟨u, rfl, ⟨nu, rfl, hnu⟩, hb5⟩
    have HB5 := Lib.hid (HB3.out.trans (below_le hb5 HB3.out.size))
    clear hb5
    by_cases q2 : T2 = 0
    · subst q2
      simp only [if_pos]
      have HB6 := Lib.hid (fun c => HB5.out.alloc HB5.out.size c)
      by_cases q3 : E.t = 3
      · have HR2 : Hid (R = (E.b, 0)) := Lib.hid (by rw [HR1.out, if_neg (by simp), if_neg (by simp [q3])])
        rw [q3]
        go_wp2
        go_ret2
        exact ⟨by rw [HR2.out]; rfl, HB6.out _⟩
      · have HR2 : Hid (R = (false, 1)) := Lib.hid (by rw [HR1.out, if_neg (by simp), if_pos q3])
        have q4 : ((E.t : Int) == 3) = false := by simpa using (show ¬ ((E.t : Int) = 3) by omega)
        generalize E.t = et at q4 ⊢
        go_wp2
        go_ret2
        exact ⟨by rw [HR2.out]; rfl, HB6.out _⟩
    · have HR2 : Hid (R = (false, T2)) := Lib.hid (by rw [HR1.out, if_pos q2])
      have q4 : ((T2 : Int) == 0) = false := by simpa using (show ¬ ((T2 : Int) = 0) by omega)
      have HB6 := Lib.hid (fun c => HB5.out.alloc HB5.out.size c)
      generalize (if T2 = 0 then E else av0) = E2
      go_wp2
      go_ret2
      exact ⟨by rw [HR2.out]; rfl, HB6.out _⟩
  · have HR1 : Hid (R = (false, Q2)) := Lib.hid (by rw [HR.out, if_pos q])
    have q4 : ((Q2 : Int) == 0) = false := by simpa using (show ¬ ((Q2 : Int) = 0) by omega)
    go_wp2
    go_ret2
    exact ⟨by rw [HR1.out]; rfl, HB3.out⟩
end Go.Proofs.YtfalcmbjjlgoaaaGreatDoor
/- The page's example: what it gives. -/
namespace Go.Proofs.YtfalcmbjjlgoaaaGreatDoor
open Go.RowKit Go.Shelf
def exB : List Bnd := [⟨[120], ⟨2, 0, [98, 99, 100], false⟩⟩]
def ex1 : Bs := [108, 101, 110, 32, 120, 32, 62, 61, 32, 51]
def ex2 : Bs := [108, 101, 110, 40, 120, 41, 32, 62, 61, 32, 51, 32, 97, 110, 100, 32, 110, 111, 116, 32, 104, 97, 115, 40, 120, 44, 32, 39, 97, 39, 41]
def ex3 : Bs := [49, 32, 47, 32, 48, 32, 62, 32, 53]
def ex4 : Bs := [48, 32, 47, 32, 48, 32, 61, 32, 48, 32, 47, 32, 48]
set_option maxRecDepth 100000 in
theorem ex1_is : (parseP ex1).2 = 190 := by kernel_rfl
set_option maxRecDepth 100000 in
theorem ex2_is : hoP exB ex2 = (true, 0) := by kernel_rfl
set_option maxRecDepth 100000 in
theorem ex3_is : hoP [] ex3 = (true, 0) := by kernel_rfl
set_option maxRecDepth 100000 in
theorem ex4_is : hoP [] ex4 = (false, 0) := by kernel_rfl
end Go.Proofs.YtfalcmbjjlgoaaaGreatDoor
