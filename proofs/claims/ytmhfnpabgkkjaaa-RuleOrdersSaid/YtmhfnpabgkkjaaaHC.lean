/- Walks: Clean, Count. -/
import Derived.Test.YtmhfnpabgkkjaaaHB
namespace Go.Proofs.Ytmhfnpabgkkjaaa
open Go.RowKit Go.Shelf
def Short (s : List Bs × Bs × Bool) : Prop := (∀ c ∈ s.1, c.length ≤ 64) ∧ s.2.1.length ≤ 64
theorem cutR_short (s : List Bs × Bs × Bool) (r : Int) (h : Short s) : Short (cutR s r) := by
  obtain ⟨h1, h2⟩ := h
  have := rb_len r
  refine ⟨?_, (cutR_len s r h2).2⟩
  unfold cutR addS
  split
  · exact h1
  · split
    · split
      · intro c hc
        rcases List.mem_append.1 hc with q | q
        · exact h1 c q
        · simp at q; rw [q]; exact h2
      · exact h1
    · split
      · exact h1
      · exact h1
theorem cutS_short (l : Bs) : ∀ c ∈ cutS l, c.length ≤ 64 := by
  have h : ∀ (rs : List Int) (s : List Bs × Bs × Bool), Short s → Short (rs.foldl cutR s) := by
    intro rs
    induction rs with
    | nil => intro s h; exact h
    | cons r rs ih => intro s h; exact ih _ (cutR_short s r h)
  obtain ⟨h1, h2⟩ := h ((itm l).map (·.2)) ([], [], false) ⟨by simp, by simp⟩
  unfold cutS endS cutF
  intro c hc
  split at hc
  · rcases List.mem_append.1 hc with q | q
    · exact h1 c q
    · simp at q; rw [q]; exact h2
  · exact h1 c hc
theorem cutS_len (l : Bs) : (cutS l).length ≤ l.length + 1 := by
  have h1 := (cutF_len ((itm l).map (·.2))).1
  rw [List.length_map] at h1
  have h2 := itm_len l
  unfold cutS endS
  split
  · simp; omega
  · omega
theorem flat_short (ws : List Bs) (h : ∀ c ∈ ws, c.length ≤ 64) : ws.flatten.length ≤ 64 * ws.length := by
  induction ws with
  | nil => simp
  | cons a t ih =>
    have h1 := h a (by simp)
    have h2 := ih (fun c hc => h c (by simp [hc]))
    simp only [List.flatten_cons, List.length_append, List.length_cons]
    omega
/-- A text without its controls and stray marks. -/
def cleanS (l : Bs) : Bs := (cutS l).flatten
theorem cleanS_len (l : Bs) : (cleanS l).length ≤ 64 * (l.length + 1) := by
  have h1 := flat_short _ (cutS_short l)
  have h2 := cutS_len l
  unfold cleanS
  omega
theorem wcount (l : Bs) (hl : l.length ≤ 900000) (w : World) : Calls Try.prog 24 #[.string (tx l)] w fun e w' => e = .returned (.int .i64 (cutS l).length) ∧ Below w.heap.size w w' := by
  have HC := Lib.hid (fun W => wcutS l hl W)
  unfold CutEnd at HC
  obtain ⟨T, hT⟩ : ∃ T, T = tx l := ⟨_, rfl⟩
  rw [← hT] at HC ⊢
  clear hT
  go_enter Try.func24, Try.ntmps24
  go_wp2_with (first | (go_at_call 37; fail))
  go_at_call 37
  refine (HC.out _).mono ?_
  rintro e w1 ⟨v, rfl, hv, hb⟩
  obtain ⟨x, c, rfl⟩ := ownsRow_is hv
  have HB := Lib.hid hb
  clear hv hb
  go_wp2
  go_ret
  exact ⟨rfl, HB.out⟩
end Go.Proofs.Ytmhfnpabgkkjaaa
