/- Own texts, merged: FU. -/
import Derived.SliceStrings
import Derived.Test.YtdehjofmangmbaaGreatMS45
/- Walks: few; Common of both sides. -/
namespace Go.Proofs.YtdehjofmangmbaaGreat
open Go.RowKit Go.Shelf Go.ChangeShapes Go.WideShapes
/-- An argument's texts. -/
def StrsV (w : World) (x : Option Addr) (n : Nat) (ss : List Bs) : Prop :=
  n = ss.length ∧ n ≤ 9223372036854775807 ∧ (0 < n → ∃ b off, x = some ⟨b, off, none⟩ ∧ b < w.heap.size ∧ ∀ i, i < n → w.cell? ⟨b, off + i, none⟩ = some (.string (tx (ss.getD i []))))
def fewL (ss : List Bs) (k : Nat) : List Bs := (ss.take k).map (·.take 60)
theorem fewL_succ (ss : List Bs) (k : Nat) (hk : k < ss.length) : fewL ss (k + 1) = fewL ss k ++ [(ss.getD k []).take 60] := by
  unfold fewL
  rw [List.take_succ_eq_append_getElem hk, List.map_append, List.getD_eq_getElem?_getD, List.getElem?_eq_getElem hk]
  rfl
theorem fewL_len (ss : List Bs) (k : Nat) (hk : k ≤ ss.length) : (fewL ss k).length = k := by unfold fewL; rw [List.length_map, List.length_take]; omega
theorem fewL_all (ss : List Bs) (k : Nat) (h : 40 ≤ k ∨ ss.length ≤ k) (hk : k ≤ 40) : fewL ss k = fewL ss 40 := by
  unfold fewL
  rcases h with h | h
  · have : k = 40 := by omega
    rw [this]
  · rw [List.take_of_length_le h, List.take_of_length_le (by omega)]
theorem fewL_short (ss : List Bs) (k : Nat) : ∀ s ∈ fewL ss k, s.length ≤ 60 := by
  intro s hs
  unfold fewL at hs
  obtain ⟨t, _, rfl⟩ := List.mem_map.1 hs
  rw [List.length_take]
  omega
set_option maxRecDepth 100000 in
set_option maxHeartbeats 2000000 in
theorem lfew (x : Option Addr) (n c : Nat) (ss : List Bs) (hc : n ≤ c) (w : World) (h : StrsV w x n ss) : Calls Tryz.prog 22 #[.slice x n c] w fun e w' => ∃ v, e = .returned v ∧ w'.ownsRow w.heap.size 9 1 v (fewL ss 40).length (strs (fewL ss 40)) ∧ Below w.heap.size w w' := by
  obtain ⟨hn, hnb, hx⟩ := h
  have HX := Lib.hid hx
  have HN := Lib.hid hn
  have HCU := Lib.hid (fun (l : Bs) W => lcut l W)
  obtain ⟨i9, hi, hi0, hi1, hi2⟩ : ∃ i0, Tryz.prog.info? 9 = some i0 ∧ i0.zero = some (.string ⟨#[]⟩) ∧ i0.size = 1 ∧ i0.bytes = 16 :=
    info_parts (show (Tryz.prog.info? 9).map (fun i => (i.zero, i.size, i.bytes)) = some (some (.string ⟨#[]⟩), 1, 16) by kernel_rfl)
  have HP := Lib.hid (And.intro hi (And.intro hi0 (And.intro hi1 hi2)))
  clear hx hn hi hi0 hi1 hi2
  go_enter Tryz.func22, Tryz.ntmps22
  go_wp2
  go_loopw [3, 4] (fun v i wr => ∃ k : Nat, i = .int .i64 (k : Int) ∧ k ≤ n ∧ k ≤ 40 ∧ Hid (wr.ownsRow w.heap.size 9 1 v k (strs (fewL ss k))) ∧ Hid (Below w.heap.size w wr)) (fun _ i _ => 40 - (intOf i).toNat)
  case atStart => exact ⟨0, rfl, Nat.zero_le _, by omega, Lib.hid (World.ownsRow_nil _ _ _ _), Lib.hid (Below.refl _ _)⟩
  case round =>
    obtain ⟨k, rfl, hk, hk4, HO, HB⟩ := hrel
    obtain ⟨y, d, rfl⟩ := ownsRow_is HO.out
    have i1 : (0 : Int) ≤ (k : Int) := by omega
    by_cases hlt : k < n
    · have i2 : (k : Int) < (n : Int) := by omega
      by_cases h40 : k < 40
      · have i3 : (k : Int) < 40 := by omega
        obtain ⟨b, off, rfl, hb, hget⟩ := HX.out (by omega)
        have ce : wr.cell? ⟨b, off + k, none⟩ = some (.string (tx (ss.getD k []))) := (HB.out.cell (p := ⟨b, off + k, none⟩) hb).trans (hget k hlt)
        have HC := Lib.hid (HCU.out (ss.getD k []))
        have HFS := Lib.hid (fewL_succ ss k (by have := HN.out; omega))
        generalize (ss.getD k []).take 60 = U at HC HFS
        generalize tx (ss.getD k []) = T at ce HC
        obtain ⟨V, hV⟩ : ∃ V, V = tx U := ⟨_, rfl⟩
        have HV := Lib.hid hV
        rw [← hV] at HC
        have hbs := HB.out.size
        clear hget hV
        go_wp2_with (first | (go_at_call 7; refine (HC.out _).mono ?_; rintro e w2 ⟨rfl, rfl⟩) | (at_builtin; go_loud (refine wpList_append_own _ rfl _ _ 26 rfl w.heap.size 9 i9 (.string ⟨#[]⟩) 1 16 Tryz.underlying26 HP.out.1 HP.out.2.1 HP.out.2.2.1 HP.out.2.2.2 rfl (by decide) _ _ _ rfl (HO.out.alloc _) ⟨wr.heap.size, 0, none⟩ 1 1 [.string V] rfl rfl (cell_one_new _ _ _) (by simp [Value.oneCell']) (by unfold maxLen; omega) (by omega) (by simp; omega) ?_)))
        intro v' w4 ho hg4 _
        have HO4 : Hid (w4.ownsRow w.heap.size 9 1 v' (k + 1) (strs (fewL ss (k + 1)))) := Lib.hid (by rw [HFS.out, strs_app, show strs [U] = [.string V] by rw [HV.out]; rfl]; exact ho)
        have HB4 : Hid (Below w.heap.size w w4) := Lib.hid ((HB.out.alloc hbs _).grown hg4 (by simp; omega) (fun k e => (HO.out.lt k e).1))
        clear ho hg4
        go_wp2
        go_roundw
        case rel => exact ⟨k + 1, by go_num, by omega, by omega, HO4, HB4⟩
        case measure => simp [intOf]; omega
      · obtain rfl : k = 40 := by omega
        have HE : Hid (wr.ownsRow w.heap.size 9 1 (.slice y 40 d) (fewL ss 40).length (strs (fewL ss 40))) := Lib.hid (by rw [fewL_len ss 40 (by have := HN.out; omega)]; exact HO.out)
        go_wp2
        go_ret
        exact ⟨_, rfl, HE.out, HB.out⟩
    · obtain rfl : k = n := by omega
      have i2 : ¬ (k : Int) < (k : Int) := by omega
      have HE : Hid (wr.ownsRow w.heap.size 9 1 (.slice y k d) (fewL ss 40).length (strs (fewL ss 40))) := Lib.hid (by
        have e := fewL_all ss k (.inr (by have := HN.out; omega)) hk4
        rw [← e, fewL_len ss k (by have := HN.out; omega)]
        exact HO.out)
      clear HO
      go_wp2
      go_ret
      exact ⟨_, rfl, HE.out, HB.out⟩
theorem cpl_is : ∀ (k : Nat) (l m : List Bs), k ≤ l.length → k ≤ m.length → (∀ j, j < k → l.getD j [] = m.getD j []) → (k = l.length ∨ k = m.length ∨ l.getD k [] ≠ m.getD k []) → cpl l m = k
  | 0, [], _, _, _, _, _ => by unfold cpl; rfl
  | 0, _ :: _, [], _, _, _, _ => by unfold cpl; rfl
  | 0, a :: l, b :: m, _, _, _, h => by
    have : ¬ a = b := by
      rcases h with h | h | h
      · simp at h
      · simp at h
      · simpa using h
    unfold cpl
    rw [if_neg this]
  | k + 1, [], _, h, _, _, _ => by simp at h
  | k + 1, _ :: _, [], _, h, _, _ => by simp at h
  | k + 1, a :: l, b :: m, h1, h2, h3, h4 => by
    have hab : a = b := by simpa using h3 0 (by omega)
    unfold cpl
    rw [if_pos hab]
    rw [cpl_is k l m (by simpa using h1) (by simpa using h2) (fun j hj => by simpa using h3 (j + 1) (by omega)) (by
      rcases h4 with h | h | h
      · left; simpa using h
      · right; left; simpa using h
      · right; right; simpa using h)]
theorem cpl_self : ∀ (l : List Bs), cpl l l = l.length
  | [] => rfl
  | a :: l => by unfold cpl; rw [if_pos rfl, cpl_self l, List.length_cons]
theorem comL_snoc (opts : List Bs) (s : Bs) (h : opts ≠ []) : comL (opts ++ [s]) = (comL opts).take (cpl (comL opts) (clS s)) := by
  obtain ⟨o, r, rfl⟩ := List.exists_cons_of_ne_nil h
  show (r ++ [s]).foldl _ _ = _
  rw [List.foldl_append]
  rfl
theorem comL_clu (opts : List Bs) : ∀ c ∈ comL opts, Clu c := by
  cases opts with
  | nil => intro c hc; cases hc
  | cons o r =>
    have : ∀ (r : List Bs) (l : List Bs), (∀ c ∈ l, Clu c) → ∀ c ∈ r.foldl (fun l s => l.take (cpl l (clS s))) l, Clu c := by
      intro r
      induction r with
      | nil => intro l h; exact h
      | cons s r ih => intro l h; exact ih _ (fun c hc => h c (List.mem_of_mem_take hc))
    exact this r (clS o) (cl_clu o)
theorem comL_len (opts : List Bs) (h : ∀ s ∈ opts, s.length ≤ 60) : (comL opts).length ≤ 4000 := by
  cases opts with
  | nil => simp [comL]
  | cons o r =>
    have : ∀ (r : List Bs) (l : List Bs), (r.foldl (fun l s => l.take (cpl l (clS s))) l).length ≤ l.length := by
      intro r
      induction r with
      | nil => intro l; exact Nat.le_refl _
      | cons s r ih =>
        intro l
        refine Nat.le_trans (ih _) ?_
        rw [List.length_take]
        omega
    have h1 := this r (clS o)
    have h2 := clS_len o
    have h3 := h o (by simp)
    have h4 : (comL (o :: r)).length ≤ (clS o).length := h1
    omega
/-- The first texts of a row. -/
theorem TxV.head {W : World} {x : Option Addr} {c : Nat} {L : List Bs} (h : TxV W (.slice x L.length c) L) (k : Nat) (hk : k ≤ L.length) : TxV W (.slice x k c) (L.take k) := by
  obtain ⟨h1, h2⟩ := h
  have hl : (L.take k).length = k := by rw [List.length_take]; omega
  refine ⟨by omega, ?_⟩
  rcases h2 with ⟨hv, rfl⟩ | ⟨g, o, c', hv, hc, hg, hget⟩
  · left
    simp only [List.length_nil] at hk
    obtain rfl : k = 0 := by omega
    exact ⟨by simpa using hv, by simp⟩
  · right
    obtain ⟨rfl, rfl⟩ : x = some ⟨g, o, none⟩ ∧ c = c' := by simpa using hv
    refine ⟨g, o, c, by rw [hl], by omega, hg, fun i hi => ?_⟩
    rw [hget i (by omega)]
    congr 3
    rw [List.getD_eq_getElem?_getD, List.getD_eq_getElem?_getD, List.getElem?_take, if_pos (by omega)]
theorem txo (s : ByteArray) : tx s.data.toList = s := by simp [tx]
set_option maxRecDepth 100000 in
theorem strs_of_arg {H : Type} {enc : TypeId × Value → H} {w : World} {r : Reach} {b0 base : Nat} {spare : Nat → Bool} {held : Bool} {v : Value} {d : DataW H} {p : List MemPlace} (hv : Value.okWide Tryz.prog w r b0 26 v) (h : DataW.Trod enc Tryz.prog w base spare held 26 v d p) :
    ∃ a n cap ss, v = .slice a n cap ∧ n ≤ cap ∧ StrsV w a n ss := by
  obtain ⟨a, n, cap, rfl⟩ := okWide_slice Tryz.underlying26 hv
  obtain ⟨fuel, hf⟩ := h
  rcases open_strings Tryz.underlying26 Tryz.underlying9 (by kernel_rfl) (show DataW.trod enc Tryz.prog w base spare held fuel 26 [.slice a n cap] = some _ by simpa [Value.cells] using hf) with ⟨hcs, _⟩ | ⟨a', len, cap', ss, hcs, _, hl, hm, hz, _, hcell, _⟩
  · cases hcs
    exact ⟨none, 0, 0, [], rfl, Nat.le_refl _, rfl, by omega, fun h => absurd h (by omega)⟩
  · cases hcs
    refine ⟨some a', n, cap, (ss.take n).map (·.data.toList), rfl, hl, ?_, by unfold maxLen at hm; omega, fun hp => ?_⟩
    · rw [List.length_map, List.length_take, hz]; split <;> omega
    · have hls : n ≤ ss.length := by rw [hz]; split <;> omega
      obtain ⟨b, off, spot⟩ := a'
      have h0 := hcell 0 (by omega)
      have hs := World.cell?_spot h0
      have hsp : spot = none := by simpa [Addr.add] using hs
      subst hsp
      refine ⟨b, off, rfl, World.block_lt_of_cell? w _ h0, fun i hi => ?_⟩
      have h1 := hcell i (by omega)
      rw [add_plain] at h1
      rw [h1, List.getD_eq_getElem?_getD, List.getD_eq_getElem?_getD, List.getElem?_map, List.getElem?_take_of_lt hi, List.getElem?_eq_getElem (by omega)]
      simp [txo]
end Go.Proofs.YtdehjofmangmbaaGreat
