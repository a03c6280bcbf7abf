/- Walks of the law's helpers: cut, filled, SameAll; texts as arguments. -/
import Derived.Test.YtbaljpamhmbcjaaGreatHT
import Derived.SliceStrings
import Derived.BigQuiet
namespace Go.Proofs.YtbaljpamhmbcjaaGreat
open Go.RowKit Go.Shelf Go.ChangeShapes Go.WideShapes
/-- A slice of texts. -/
def StrsV (w : World) (x : Option Addr) (n : Nat) (ss : List Bs) : Prop :=
  n = ss.length ∧ n ≤ 9223372036854775807 ∧ (0 < n → ∃ b off, x = some ⟨b, off, none⟩ ∧ b < w.heap.size ∧ ∀ i, i < n → w.cell? ⟨b, off + i, none⟩ = some (.string (tx (ss.getD i []))))
theorem tx_of (s : ByteArray) : tx s.data.toList = s := by simp [tx]
set_option maxRecDepth 100000 in
theorem strs_of_arg {H : Type} {enc : TypeId × Value → H} {w : World} {r : Reach} {b0 base : Nat} {spare : Nat → Bool} {held : Bool} {v : Value} {d : DataW H} {p : List MemPlace} (hv : Value.okWide Tryz.prog w r b0 22 v) (h : DataW.Trod enc Tryz.prog w base spare held 22 v d p) :
    ∃ a n cap ss, v = .slice a n cap ∧ n ≤ cap ∧ StrsV w a n ss := by
  obtain ⟨a, n, cap, rfl⟩ := okWide_slice Tryz.underlying22 hv
  obtain ⟨fuel, hf⟩ := h
  rcases open_strings Tryz.underlying22 Tryz.underlying9 (by kernel_rfl) (show DataW.trod enc Tryz.prog w base spare held fuel 22 [.slice a n cap] = some _ by simpa [Value.cells] using hf) with ⟨hcs, _⟩ | ⟨a', len, cap', ss, hcs, _, hl, hm, hz, _, hcell, _⟩
  · cases hcs
    exact ⟨none, 0, 0, [], rfl, Nat.le_refl _, rfl, by omega, fun h => absurd h (by omega)⟩
  · cases hcs
    refine ⟨some a', n, cap, (ss.take n).map (·.data.toList), rfl, hl, ?_, by unfold maxLen at hm; omega, fun hp => ?_⟩
    · rw [List.length_map, List.length_take, hz]; split <;> omega
    · have hls : n ≤ ss.length := by rw [hz]; split <;> omega
      obtain ⟨b, off, spot⟩ := a'
      have h0 := hcell 0 (by omega)
      have hs := World.cell?_spot h0
      have hsp : spot = none := by simpa [Addr.add] using hs
      subst hsp
      refine ⟨b, off, rfl, World.block_lt_of_cell? w _ h0, fun i hi => ?_⟩
      have h1 := hcell i (by omega)
      rw [add_plain] at h1
      rw [h1, List.getD_eq_getElem?_getD, List.getD_eq_getElem?_getD, List.getElem?_map, List.getElem?_take_of_lt hi, List.getElem?_eq_getElem (by omega)]
      simp [tx_of]
theorem tx_extract (l : Bs) (a b : Nat) : (tx l).extract a b = tx ((l.drop a).take (b - a)) := by
  apply ByteArray.ext
  simp [tx, ByteArray.data_extract]
theorem wcut60 (l : Bs) (w : World) : Calls Tryz.prog 30 #[.string (tx l)] w fun e w' => e = .returned (.string (tx (l.take 60))) ∧ w = w' := by
  have hsz := tx_size l
  have hex := tx_extract l 0 60
  simp only [List.drop_zero, Nat.sub_zero] at hex
  by_cases h : 60 < l.length
  · rw [← hex]
    obtain ⟨T, hT⟩ : ∃ T, T = tx l := ⟨_, rfl⟩
    rw [← hT] at hsz ⊢
    have h2 : 60 < T.size := by omega
    clear hT hsz h hex
    have i1 : (60 : Int) < (T.size : Int) := by omega
    have i2 : 60 ≤ T.size := by omega
    go_enter Tryz.func30, Tryz.ntmps30
    go_wp2
    go_ret
    exact ⟨rfl, rfl⟩
  · rw [List.take_of_length_le (by omega)]
    obtain ⟨T, hT⟩ : ∃ T, T = tx l := ⟨_, rfl⟩
    rw [← hT] at hsz ⊢
    have h2 : ¬ 60 < T.size := by omega
    clear hT hsz h hex
    have i1 : ¬ (60 : Int) < (T.size : Int) := by omega
    go_enter Tryz.func30, Tryz.ntmps30
    go_wp2
    go_ret
    exact ⟨rfl, rfl⟩
/-- Lines of a history of so many at most. -/
def GoodL (m : Nat) (L : List Bs) : Prop := L.length ≤ m ∧ (∀ l ∈ L, l.length ≤ 4000) ∧ L.Nodup
theorem goodL_nil (m : Nat) : GoodL m [] := ⟨by simp, by simp, List.nodup_nil⟩
theorem goodL_add {m : Nat} {L : List Bs} (h : GoodL m L) (s : Bs) (hs : s.length ≤ 60) : GoodL m (addL m L (flatS s)).2 := by
  have hf := flatS_len s
  unfold addL
  split
  · refine ⟨by simp; omega, fun l hl => ?_, ?_⟩
    · have := List.mem_of_mem_take hl
      rcases List.mem_cons.1 this with rfl | h2
      · omega
      · exact h.2.1 l (List.mem_filter.1 h2).1
    · refine (List.Nodup.sublist (List.take_sublist _ _) ?_)
      rw [List.nodup_cons]
      exact ⟨fun h2 => by have := (List.mem_filter.1 h2).2; simp at this, h.2.2.filter _⟩
  · exact h
/-- A history of these texts, as far as they were added. -/
def fillN (m : Nat) (ss : List Bs) (k : Nat) : List Bs := (ss.take k).foldl (fun L s => (addL m L (flatS (s.take 60))).2) []
theorem fillN_zero (m : Nat) (ss : List Bs) : fillN m ss 0 = [] := rfl
theorem fillN_succ (m : Nat) (ss : List Bs) (k : Nat) (hk : k < ss.length) : fillN m ss (k + 1) = (addL m (fillN m ss k) (flatS ((ss.getD k []).take 60))).2 := by
  unfold fillN
  rw [List.take_succ_eq_append_getElem hk, List.foldl_append, List.getD_eq_getElem?_getD, List.getElem?_eq_getElem hk]
  rfl
theorem fillN_good (m : Nat) (ss : List Bs) : ∀ k, k ≤ ss.length → GoodL m (fillN m ss k)
  | 0, _ => goodL_nil m
  | k + 1, hk => by rw [fillN_succ m ss k (by omega)]; exact goodL_add (fillN_good m ss k (by omega)) _ (by simp; omega)
def fillS (m : Nat) (ss : List Bs) : List Bs := fillN m ss (min ss.length 40)
set_option maxRecDepth 100000 in
set_option maxHeartbeats 1000000 in
theorem wfilled (m : Nat) (hm1 : 1 ≤ m) (hm2 : m ≤ 256) (x : Option Addr) (n c : Nat) (hnc : n ≤ c) (ss : List Bs) (w : World) (h : StrsV w x n ss) :
    Calls Tryz.prog 9 #[.int .i64 m, .slice x n c] w fun e w' => e = .returned (.pointer (some ⟨w.heap.size, 0, none⟩)) ∧ (∃ y d, His w' w.heap.size m (fillS m ss) Wk.no y d) ∧ Below w.heap.size w w' := by
  have HSV := Lib.hid h
  have hn := h.2.1
  have H0 : Hid ((∃ y d, His (w.alloc (.cells #[.int .i64 m, .slice none 0 0, .bool false, .string ⟨#[]⟩, .string ⟨#[]⟩, .int .i64 0] 45)) w.heap.size m (fillN m ss 0) Wk.no y d) ∧ Below w.heap.size w (w.alloc (.cells #[.int .i64 m, .slice none 0 0, .bool false, .string ⟨#[]⟩, .string ⟨#[]⟩, .int .i64 0] 45))) :=
    Lib.hid ⟨⟨none, 0, heap_alloc_new _ _, RowL.nil _⟩, (Below.refl _ _).alloc (Nat.le_refl _) _⟩
  have HNW := Lib.hid (fun W => wnewH m (by omega) (by omega) W)
  clear h
  go_enter Tryz.func9, Tryz.ntmps9
  go_wp2_with (first | (go_at_call 11; (with_reducible refine (HNW.out _).mono ?_); rintro e w1 ⟨rfl, rfl⟩))
  obtain ⟨W0, hW0⟩ : ∃ W0, W0 = w.alloc (.cells #[.int .i64 m, .slice none 0 0, .bool false, .string ⟨#[]⟩, .string ⟨#[]⟩, .int .i64 0] 45) := ⟨_, rfl⟩
  rw [← hW0] at H0 ⊢
  clear hW0 HNW
  go_loopw [7] (fun i wr => ∃ k : Nat, i = .int .i64 k ∧ k ≤ 40 ∧ k ≤ n ∧ Hid ((∃ y d, His wr w.heap.size m (fillN m ss k) Wk.no y d) ∧ Below w.heap.size w wr)) (fun i _ => 40 - (intOf i).toNat)
  case atStart => exact ⟨0, rfl, by omega, by omega, H0⟩
  case round =>
    clear H0
    obtain ⟨k, rfl, hk, hkn, HS⟩ := hrel
    have i1 : (0 : Int) ≤ (k : Int) := by omega
    by_cases hlt : k < 40 ∧ k < n
    · obtain ⟨hl1, hl2⟩ := hlt
      have i2 : (k : Int) < 40 := by omega
      have i3 : (k : Int) < (n : Int) := by omega
      have i4 : k < c := by omega
      obtain ⟨b, off, rfl, hb, hget⟩ := HSV.out.2.2 (by omega)
      have hc := (HS.out.2.cell (p := ⟨b, off + k, none⟩) hb).trans (hget k hl2)
      have HCU := Lib.hid (wcut60 (ss.getD k []) wr)
      have HAD : Hid (Calls Tryz.prog 22 #[.pointer (some ⟨w.heap.size, 0, none⟩), .string (tx ((ss.getD k []).take 60))] wr fun e w' => (∃ t, e = .returned (.bool t)) ∧ ((∃ y d, His w' w.heap.size m (fillN m ss (k + 1)) Wk.no y d) ∧ Below w.heap.size w w')) := Lib.hid (by
        obtain ⟨⟨y, d, hh⟩, hbl⟩ := HS.out
        refine (wHadd w.heap.size m hm1 hm2 _ (by have := (fillN_good m ss k (by have := HSV.out.1; omega)).1; omega) Wk.no y d ((ss.getD k []).take 60) (by simp; omega) wr hh).mono ?_
        rintro e w' ⟨rfl, h2, h3⟩
        rw [← fillN_succ m ss k (by have := HSV.out.1; omega)] at h2
        exact ⟨⟨_, rfl⟩, h2, hbl.trans (h3.toBelow hbl.size (fun j hj => by simp at hj; omega))⟩)
      obtain ⟨X, hX⟩ : ∃ X, X = tx (ss.getD k []) := ⟨_, rfl⟩
      obtain ⟨Y, hY⟩ : ∃ X, X = tx ((ss.getD k []).take 60) := ⟨_, rfl⟩
      rw [← hX] at hc HCU
      rw [← hY] at HCU HAD
      clear hX hY hget hb
      go_wp2_with (first | (go_at_call 30; (with_reducible refine HCU.out.mono ?_); rintro e w1 ⟨rfl, rfl⟩) | (go_at_call 22; fail))
      go_at_call 22
      refine HAD.out.mono ?_
      rintro e w2 ⟨⟨t, rfl⟩, h2⟩
      have H2 := Lib.hid h2
      clear h2 hc
      go_wp2
      go_roundw
      case rel => exact ⟨k + 1, by go_num, by omega, by omega, H2⟩
      case measure => simp [intOf]; omega
    · have HE : Hid (fillN m ss k = fillS m ss) := Lib.hid (by
        unfold fillS
        rw [show min ss.length 40 = k by have := HSV.out.1; omega])
      rw [HE.out] at HS
      by_cases h40 : k < 40
      · have i2 : ¬ (k : Int) < (n : Int) := by omega
        clear hlt
        go_wp2
        go_ret
        exact ⟨rfl, HS.out⟩
      · have i2 : ¬ (k : Int) < 40 := by omega
        clear hlt
        by_cases hkn2 : k < n
        · have i3 : (k : Int) < (n : Int) := by omega
          go_wp2
          go_ret
          exact ⟨rfl, HS.out⟩
        · have i3 : ¬ (k : Int) < (n : Int) := by omega
          go_wp2
          go_ret
          exact ⟨rfl, HS.out⟩
end Go.Proofs.YtbaljpamhmbcjaaGreat
