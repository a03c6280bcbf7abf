/- Walk: the law HistoryNobody. -/
import Derived.Test.YtbaljpamhmbcjaaHT
namespace Go.Proofs.Ytbaljpamhmbcjaa
open Go.RowKit Go.Shelf
/-- The world with the two histories that nobody made. -/
def NobH (w : World) : World := (w.alloc (.cells #[.int .i64 0, .slice none 0 0, .bool false, .string ⟨#[]⟩, .string ⟨#[]⟩, .int .i64 0] 60)).alloc (.cells #[.pointer none, .pointer (some ⟨w.heap.size, 0, none⟩)] 23)
theorem nobH_size (w : World) : (NobH w).heap.size = w.heap.size + 2 := by simp [NobH]
theorem nobH_below (w : World) : Below w.heap.size w (NobH w) := ((Below.refl _ _).alloc (Nat.le_refl _) _).alloc (by simp) _
theorem nobH_cells {w W : World} (h : Below (w.heap.size + 2) (NobH w) W) : W.cell? ⟨w.heap.size + 1, 0, none⟩ = some (.pointer none) ∧ W.cell? ⟨w.heap.size + 1, 1, none⟩ = some (.pointer (some ⟨w.heap.size, 0, none⟩)) ∧ Unmade (some ⟨w.heap.size, 0, none⟩) W := by
  have h1 := h.block (w.heap.size + 1) (by omega)
  have h0 := h.block w.heap.size (by omega)
  have e1 : (NobH w).heap[w.heap.size + 1]? = some (.cells #[.pointer none, .pointer (some ⟨w.heap.size, 0, none⟩)] 23 (0, 0)) := by
    have := heap_alloc_new (w.alloc (.cells #[.int .i64 0, .slice none 0 0, .bool false, .string ⟨#[]⟩, .string ⟨#[]⟩, .int .i64 0] 60)) (.cells #[.pointer none, .pointer (some ⟨w.heap.size, 0, none⟩)] 23)
    simpa [NobH] using this
  have e0 : (NobH w).heap[w.heap.size]? = some (.cells #[.int .i64 0, .slice none 0 0, .bool false, .string ⟨#[]⟩, .string ⟨#[]⟩, .int .i64 0] 60 (0, 0)) := (heap_alloc_old _ _ (by simp)).trans (heap_alloc_new _ _)
  rw [e1] at h1
  rw [e0] at h0
  refine ⟨by simp [World.cell?, h1], by simp [World.cell?, h1], .inr ⟨w.heap.size, 0, rfl, by simp [World.cell?, h0], by omega, (Array.getElem?_eq_some_iff.1 h0).1⟩⟩
theorem nobH_step {w W W' : World} {p : Option Addr} (h : Unmade p W ∧ Below (w.heap.size + 2) (NobH w) W) (hb : Below W.heap.size W W') : Unmade p W' ∧ Below (w.heap.size + 2) (NobH w) W' :=
  ⟨h.1.kept hb, h.2.trans (below_le hb (by have := h.2.size; rw [nobH_size] at this; exact this))⟩
set_option maxRecDepth 100000 in
set_option maxHeartbeats 4000000 in
theorem nobody_any (s : ByteArray) (n : Int) (w : World) : Calls Try.prog 6 #[.string s, .int .i64 n] w fun e w' => e = .returned (.bool true) ∧ Below w.heap.size w w' := by
  have HB0 := Lib.hid (nobH_below w)
  have HSZ := Lib.hid (nobH_size w)
  go_enter Try.func6, Try.ntmps6
  go_wp2
  obtain ⟨W0, hW0⟩ : ∃ W0, W0 = NobH w := ⟨_, rfl⟩
  have HW0 := Lib.hid hW0
  unfold NobH at hW0
  rw [← hW0]
  clear hW0
  go_loopw [7] (fun i wr => ∃ k : Nat, k ≤ 2 ∧ i = .int .i64 k ∧ Hid (Below (w.heap.size + 2) (NobH w) wr)) (fun i _ => 2 - (intOf i).toNat)
  case atStart => exact ⟨0, by omega, rfl, Lib.hid (by rw [HW0.out]; exact Below.refl _ _)⟩
  case round =>
    obtain ⟨k, hk, rfl, HR⟩ := hrel
    by_cases hlt : k < 2
    · obtain ⟨p, hp⟩ : ∃ p, wr.cell? ⟨w.heap.size + 1, k, none⟩ = some (.pointer p) ∧ Unmade p wr := by
        obtain ⟨h1, h2, h3⟩ := nobH_cells HR.out
        have : k = 0 ∨ k = 1 := by omega
        rcases this with rfl | rfl
        · exact ⟨_, h1, .inl rfl⟩
        · exact ⟨_, h2, h3⟩
      have cp := hp.1
      have H0 : Hid (Unmade p wr ∧ Below (w.heap.size + 2) (NobH w) wr) := Lib.hid ⟨hp.2, HR.out⟩
      clear hp HR
      have i1 : (0 : Int) ≤ (k : Int) := by omega
      have i2 : (k : Int) < 2 := by omega
      go_wp2_with (first | (go_at_call 25; fail))
      go_at_call 25
      refine (unOlder p s ⟨#[]⟩ _ H0.out.1).mono ?_
      rintro e w1 ⟨rfl, hb⟩
      have H1 := Lib.hid (nobH_step H0.out hb)
      clear hb H0 cp
      go_wp2_with (first | (go_at_call 14; fail))
      go_at_call 14
      refine (unNewer p _ H1.out.1).mono ?_
      rintro e w2 ⟨rfl, hb⟩
      have H2 := Lib.hid (nobH_step H1.out hb)
      clear hb H1
      go_wp2_with (first | (go_at_call 23; fail))
      go_at_call 23
      refine (unFind p ⟨#[]⟩ n _ H2.out.1).mono ?_
      rintro e w3 ⟨rfl, hb⟩
      have H3 := Lib.hid (nobH_step H2.out hb)
      clear hb H2
      go_wp2_with (first | (go_at_call 26; fail))
      go_at_call 26
      refine (unLine p n _ H3.out.1).mono ?_
      rintro e w4 ⟨rfl, hb⟩
      have H4 := Lib.hid (nobH_step H3.out hb)
      clear hb H3
      go_wp2_with (first | (go_at_call 11; fail))
      go_at_call 11
      refine (unTold p 5 _ H4.out.1).mono ?_
      rintro e w5 ⟨rfl, hb⟩
      have H5 := Lib.hid (nobH_step H4.out hb)
      clear hb H4
      go_wp2_with (first | (go_at_call 27; fail))
      go_at_call 27
      refine (unAdd p s _ H5.out.1).mono ?_
      rintro e w' ⟨rfl, rfl⟩
      go_wp2_with (first | (go_at_call 28; fail))
      go_at_call 28
      refine (unLeave p _ H5.out.1).mono ?_
      rintro e w' ⟨rfl, rfl⟩
      go_wp2_with (first | (go_at_call 21; fail))
      go_at_call 21
      refine (unLen p _ H5.out.1).mono ?_
      rintro e w' ⟨rfl, rfl⟩
      go_wp2_with (first | (go_at_call 9; fail))
      go_at_call 9
      refine (unSave p _ H5.out.1).mono ?_
      rintro e w6 ⟨rfl, hb⟩
      have H6 := Lib.hid (nobH_step H5.out hb)
      clear hb H5
      go_wp2_with (first | (go_at_call 29; fail))
      go_at_call 29
      refine (unFork p _ H6.out.1).mono ?_
      rintro e w' ⟨rfl, rfl⟩
      go_wp2
      go_roundw
      case rel => exact ⟨k + 1, by omega, by go_num, Lib.hid H6.out.2⟩
      case measure => simp [intOf]; omega
    · obtain rfl : k = 2 := by omega
      have HWK := Lib.hid (fun W => wawake W)
      go_wp2_with (first | (go_at_call 15; fail))
      go_at_call 15
      refine (HWK.out _).mono ?_
      rintro e w9 ⟨rfl, hb⟩
      have HB9 := Lib.hid (HB0.out.trans ((below_le HR.out (by omega)).trans (below_le hb (by have := HR.out.size; rw [HSZ.out] at this; omega))))
      clear hb
      go_wp2
      go_ret
      exact ⟨rfl, HB9.out⟩
end Go.Proofs.Ytbaljpamhmbcjaa
