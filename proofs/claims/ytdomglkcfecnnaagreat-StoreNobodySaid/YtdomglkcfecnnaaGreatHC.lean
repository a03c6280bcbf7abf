/- Walks: Clean, Count. -/
import Derived.Test.YtdomglkcfecnnaaGreatHB
namespace Go.Proofs.YtdomglkcfecnnaaGreat
open Go.RowKit Go.Shelf
theorem join_nil (ws : List Bs) : Lib.join ws [] = ws.flatten := by
  induction ws with
  | nil => rfl
  | cons a t ih =>
    cases t with
    | nil => simp [Lib.join]
    | cons b t => simp only [Lib.join, List.flatten_cons] at ih ⊢; simp [ih]
def Short (s : List Bs × Bs × Bool) : Prop := (∀ c ∈ s.1, c.length ≤ 64) ∧ s.2.1.length ≤ 64
theorem cutR_short (s : List Bs × Bs × Bool) (r : Int) (h : Short s) : Short (cutR s r) := by
  obtain ⟨h1, h2⟩ := h
  have := rb_len r
  refine ⟨?_, (cutR_len s r h2).2⟩
  unfold cutR addS
  split
  · exact h1
  · split
    · split
      · intro c hc
        rcases List.mem_append.1 hc with q | q
        · exact h1 c q
        · simp at q; rw [q]; exact h2
      · exact h1
    · split
      · exact h1
      · exact h1
theorem cutS_short (l : Bs) : ∀ c ∈ cutS l, c.length ≤ 64 := by
  have h : ∀ (rs : List Int) (s : List Bs × Bs × Bool), Short s → Short (rs.foldl cutR s) := by
    intro rs
    induction rs with
    | nil => intro s h; exact h
    | cons r rs ih => intro s h; exact ih _ (cutR_short s r h)
  obtain ⟨h1, h2⟩ := h ((itm l).map (·.2)) ([], [], false) ⟨by simp, by simp⟩
  unfold cutS endS cutF
  intro c hc
  split at hc
  · rcases List.mem_append.1 hc with q | q
    · exact h1 c q
    · simp at q; rw [q]; exact h2
  · exact h1 c hc
theorem cutS_len (l : Bs) : (cutS l).length ≤ l.length + 1 := by
  have h1 := (cutF_len ((itm l).map (·.2))).1
  rw [List.length_map] at h1
  have h2 := itm_len l
  unfold cutS endS
  split
  · simp; omega
  · omega
theorem flat_short (ws : List Bs) (h : ∀ c ∈ ws, c.length ≤ 64) : ws.flatten.length ≤ 64 * ws.length := by
  induction ws with
  | nil => simp
  | cons a t ih =>
    have h1 := h a (by simp)
    have h2 := ih (fun c hc => h c (by simp [hc]))
    simp only [List.flatten_cons, List.length_append, List.length_cons]
    omega
/-- A text without its controls and stray marks. -/
def cleanS (l : Bs) : Bs := (cutS l).flatten
theorem cleanS_len (l : Bs) : (cleanS l).length ≤ 64 * (l.length + 1) := by
  have h1 := flat_short _ (cutS_short l)
  have h2 := cutS_len l
  unfold cleanS
  omega
theorem wcount (l : Bs) (hl : l.length ≤ 900000) (w : World) : Calls Tryz.prog 66 #[.string (tx l)] w fun e w' => e = .returned (.int .i64 (cutS l).length) ∧ Below w.heap.size w w' := by
  have HC := Lib.hid (fun W => wcutS l hl W)
  unfold CutEnd at HC
  obtain ⟨T, hT⟩ : ∃ T, T = tx l := ⟨_, rfl⟩
  rw [← hT] at HC ⊢
  clear hT
  go_enter Tryz.func66, Tryz.ntmps66
  go_wp2_with (first | (go_at_call 80; fail))
  go_at_call 80
  refine (HC.out _).mono ?_
  rintro e w1 ⟨v, rfl, hv, hb⟩
  obtain ⟨x, c, rfl⟩ := ownsRow_is hv
  have HB := Lib.hid hb
  clear hv hb
  go_wp2
  go_ret
  exact ⟨rfl, HB.out⟩
set_option maxHeartbeats 1000000 in
theorem wclean (l : Bs) (hl : l.length ≤ 900000) (w : World) : Calls Tryz.prog 79 #[.string (tx l)] w fun e w' => e = .returned (.string (tx (cleanS l))) ∧ Below w.heap.size w w' := by
  have HC := Lib.hid (fun W => wcutS l hl W)
  unfold CutEnd at HC
  have HLN := Lib.hid (And.intro (cutS_len l) (flat_short _ (cutS_short l)))
  have HLL := Lib.hid hl
  have HV := Lib.hid (show cleanS l = Lib.join (cutS l) [] by rw [join_nil]; rfl)
  obtain ⟨T, hT⟩ : ∃ T, T = tx l := ⟨_, rfl⟩
  rw [← hT] at HC ⊢
  clear hT
  obtain ⟨ws, hws⟩ : ∃ ws, ws = cutS l := ⟨_, rfl⟩
  rw [← hws] at HC HLN HV
  clear hws
  go_enter Tryz.func79, Tryz.ntmps79
  go_wp2_with (first | (go_at_call 80; fail))
  go_at_call 80
  refine (HC.out _).mono ?_
  rintro e w1 ⟨v, rfl, hv, hb⟩
  have HB := Lib.hid hb
  have hv2 := hv.2
  rcases hv2 with ⟨rfl, hz⟩ | ⟨g, cap, cur, rfl, hg0, hg, hnc, _⟩
  · have hws : ws = [] := List.length_eq_zero_iff.1 hz
    subst hws
    clear hv hb
    go_wp2_with (first | (go_at_call 94; fail))
    go_at_call 94
    refine (Tryz.strings_Join_none none 0 ⟨#[]⟩ _).mono ?_
    rintro e w2 ⟨rfl, rfl⟩
    go_wp2
    go_ret
    exact ⟨by rw [HV.out]; rfl, HB.out⟩
  · have hgl : g < w1.heap.size := (Array.getElem?_eq_some_iff.1 hg).1
    have HJ := Lib.hid (Tryz.strings_Join g 0 cap (ws.map tx) ⟨#[]⟩ w1 (fun j x hx => by
      rw [List.getElem?_map] at hx
      have h1 := hv.cellAt j (by
        have := (List.getElem?_eq_some_iff.1 (show (ws.map tx)[j]? = some x by rw [List.getElem?_map]; exact hx)).1
        simpa using this)
      rw [Nat.zero_add, h1, strs, List.getElem?_map]
      cases hq : ws[j]? with
      | none => rw [hq] at hx; cases hx
      | some y => rw [hq] at hx; cases hx; rfl) hgl (by have := HLN.out.1; have := HLL.out; simp; omega) (by simpa using hnc) (by
        have e1 : (ws.map tx).map (·.data.toList) = ws := by simp [tx, List.map_map, Function.comp_def]
        rw [e1, show (⟨#[]⟩ : ByteArray).data.toList = [] from rfl, join_nil]
        have := HLN.out
        have := HLL.out
        omega))
    have e1 : (ws.map tx).map (·.data.toList) = ws := by simp [tx, List.map_map, Function.comp_def]
    rw [e1, List.length_map, show (⟨#[]⟩ : ByteArray).data.toList = [] from rfl] at HJ
    clear hv hb hg hg0 hgl hnc e1
    go_wp2_with (first | (go_at_call 94; fail))
    go_at_call 94
    refine HJ.out.mono ?_
    rintro e w2 ⟨rfl, hb2⟩
    have HB2 := Lib.hid (HB.out.trans (below_le hb2 HB.out.size))
    clear hb2
    go_wp2
    go_ret
    exact ⟨by rw [HV.out]; rfl, HB2.out⟩
end Go.Proofs.YtdomglkcfecnnaaGreat
