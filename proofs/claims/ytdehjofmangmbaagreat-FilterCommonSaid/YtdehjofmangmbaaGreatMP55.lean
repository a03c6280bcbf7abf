/- Own texts, merged: FU, FV, FW. -/
import Derived.SliceStrings
import Derived.Test.YtdehjofmangmbaaGreatFR
/- Walks: few; Common of both sides. -/
namespace Go.Proofs.YtdehjofmangmbaaGreat
open Go.RowKit Go.Shelf Go.ChangeShapes Go.WideShapes
/-- An argument's texts. -/
def StrsV (w : World) (x : Option Addr) (n : Nat) (ss : List Bs) : Prop :=
  n = ss.length ∧ n ≤ 9223372036854775807 ∧ (0 < n → ∃ b off, x = some ⟨b, off, none⟩ ∧ b < w.heap.size ∧ ∀ i, i < n → w.cell? ⟨b, off + i, none⟩ = some (.string (tx (ss.getD i []))))
def fewL (ss : List Bs) (k : Nat) : List Bs := (ss.take k).map (·.take 60)
theorem fewL_succ (ss : List Bs) (k : Nat) (hk : k < ss.length) : fewL ss (k + 1) = fewL ss k ++ [(ss.getD k []).take 60] := by
  unfold fewL
  rw [List.take_succ_eq_append_getElem hk, List.map_append, List.getD_eq_getElem?_getD, List.getElem?_eq_getElem hk]
  rfl
theorem fewL_len (ss : List Bs) (k : Nat) (hk : k ≤ ss.length) : (fewL ss k).length = k := by unfold fewL; rw [List.length_map, List.length_take]; omega
theorem fewL_all (ss : List Bs) (k : Nat) (h : 40 ≤ k ∨ ss.length ≤ k) (hk : k ≤ 40) : fewL ss k = fewL ss 40 := by
  unfold fewL
  rcases h with h | h
  · have : k = 40 := by omega
    rw [this]
  · rw [List.take_of_length_le h, List.take_of_length_le (by omega)]
theorem fewL_short (ss : List Bs) (k : Nat) : ∀ s ∈ fewL ss k, s.length ≤ 60 := by
  intro s hs
  unfold fewL at hs
  obtain ⟨t, _, rfl⟩ := List.mem_map.1 hs
  rw [List.length_take]
  omega
set_option maxRecDepth 100000 in
set_option maxHeartbeats 2000000 in
theorem lfew (x : Option Addr) (n c : Nat) (ss : List Bs) (hc : n ≤ c) (w : World) (h : StrsV w x n ss) : Calls Tryz.prog 22 #[.slice x n c] w fun e w' => ∃ v, e = .returned v ∧ w'.ownsRow w.heap.size 9 1 v (fewL ss 40).length (strs (fewL ss 40)) ∧ Below w.heap.size w w' := by
  obtain ⟨hn, hnb, hx⟩ := h
  have HX := Lib.hid hx
  have HN := Lib.hid hn
  have HCU := Lib.hid (fun (l : Bs) W => lcut l W)
  obtain ⟨i9, hi, hi0, hi1, hi2⟩ : ∃ i0, Tryz.prog.info? 9 = some i0 ∧ i0.zero = some (.string ⟨#[]⟩) ∧ i0.size = 1 ∧ i0.bytes = 16 :=
    info_parts (show (Tryz.prog.info? 9).map (fun i => (i.zero, i.size, i.bytes)) = some (some (.string ⟨#[]⟩), 1, 16) by kernel_rfl)
  have HP := Lib.hid (And.intro hi (And.intro hi0 (And.intro hi1 hi2)))
  clear hx hn hi hi0 hi1 hi2
  go_enter Tryz.func22, Tryz.ntmps22
  go_wp2
  go_loopw [3, 4] (fun v i wr => ∃ k : Nat, i = .int .i64 (k : Int) ∧ k ≤ n ∧ k ≤ 40 ∧ Hid (wr.ownsRow w.heap.size 9 1 v k (strs (fewL ss k))) ∧ Hid (Below w.heap.size w wr)) (fun _ i _ => 40 - (intOf i).toNat)
  case atStart => exact ⟨0, rfl, Nat.zero_le _, by omega, Lib.hid (World.ownsRow_nil _ _ _ _), Lib.hid (Below.refl _ _)⟩
  case round =>
    obtain ⟨k, rfl, hk, hk4, HO, HB⟩ := hrel
    obtain ⟨y, d, rfl⟩ := ownsRow_is HO.out
    have i1 : (0 : Int) ≤ (k : Int) := by omega
    by_cases hlt : k < n
    · have i2 : (k : Int) < (n : Int) := by omega
      by_cases h40 : k < 40
      · have i3 : (k : Int) < 40 := by omega
        obtain ⟨b, off, rfl, hb, hget⟩ := HX.out (by omega)
        have ce : wr.cell? ⟨b, off + k, none⟩ = some (.string (tx (ss.getD k []))) := (HB.out.cell (p := ⟨b, off + k, none⟩) hb).trans (hget k hlt)
        have HC := Lib.hid (HCU.out (ss.getD k []))
        have HFS := Lib.hid (fewL_succ ss k (by have := HN.out; omega))
        generalize (ss.getD k []).take 60 = U at HC HFS
        generalize tx (ss.getD k []) = T at ce HC
        obtain ⟨V, hV⟩ : ∃ V, V = tx U := ⟨_, rfl⟩
        have HV := Lib.hid hV
        rw [← hV] at HC
        have hbs := HB.out.size
        clear hget hV
        go_wp2_with (first | (go_at_call 7; refine (HC.out _).mono ?_; rintro e w2 ⟨rfl, rfl⟩) | (at_builtin; go_loud (refine wpList_append_own _ rfl _ _ 26 rfl w.heap.size 9 i9 (.string ⟨#[]⟩) 1 16 Tryz.underlying26 HP.out.1 HP.out.2.1 HP.out.2.2.1 HP.out.2.2.2 rfl (by decide) _ _ _ rfl (HO.out.alloc _) ⟨wr.heap.size, 0, none⟩ 1 1 [.string V] rfl rfl (cell_one_new _ _ _) (by simp [Value.oneCell']) (by unfold maxLen; omega) (by omega) (by simp; omega) ?_)))
        intro v' w4 ho hg4 _
        have HO4 : Hid (w4.ownsRow w.heap.size 9 1 v' (k + 1) (strs (fewL ss (k + 1)))) := Lib.hid (by rw [HFS.out, strs_app, show strs [U] = [.string V] by rw [HV.out]; rfl]; exact ho)
        have HB4 : Hid (Below w.heap.size w w4) := Lib.hid ((HB.out.alloc hbs _).grown hg4 (by simp; omega) (fun k e => (HO.out.lt k e).1))
        clear ho hg4
        go_wp2
        go_roundw
        case rel => exact ⟨k + 1, by go_num, by omega, by omega, HO4, HB4⟩
        case measure => simp [intOf]; omega
      · obtain rfl : k = 40 := by omega
        have HE : Hid (wr.ownsRow w.heap.size 9 1 (.slice y 40 d) (fewL ss 40).length (strs (fewL ss 40))) := Lib.hid (by rw [fewL_len ss 40 (by have := HN.out; omega)]; exact HO.out)
        go_wp2
        go_ret
        exact ⟨_, rfl, HE.out, HB.out⟩
    · obtain rfl : k = n := by omega
      have i2 : ¬ (k : Int) < (k : Int) := by omega
      have HE : Hid (wr.ownsRow w.heap.size 9 1 (.slice y k d) (fewL ss 40).length (strs (fewL ss 40))) := Lib.hid (by
        have e := fewL_all ss k (.inr (by have := HN.out; omega)) hk4
        rw [← e, fewL_len ss k (by have := HN.out; omega)]
        exact HO.out)
      clear HO
      go_wp2
      go_ret
      exact ⟨_, rfl, HE.out, HB.out⟩
theorem cpl_is : ∀ (k : Nat) (l m : List Bs), k ≤ l.length → k ≤ m.length → (∀ j, j < k → l.getD j [] = m.getD j []) → (k = l.length ∨ k = m.length ∨ l.getD k [] ≠ m.getD k []) → cpl l m = k
  | 0, [], _, _, _, _, _ => by unfold cpl; rfl
  | 0, _ :: _, [], _, _, _, _ => by unfold cpl; rfl
  | 0, a :: l, b :: m, _, _, _, h => by
    have : ¬ a = b := by
      rcases h with h | h | h
      · simp at h
      · simp at h
      · simpa using h
    unfold cpl
    rw [if_neg this]
  | k + 1, [], _, h, _, _, _ => by simp at h
  | k + 1, _ :: _, [], _, h, _, _ => by simp at h
  | k + 1, a :: l, b :: m, h1, h2, h3, h4 => by
    have hab : a = b := by simpa using h3 0 (by omega)
    unfold cpl
    rw [if_pos hab]
    rw [cpl_is k l m (by simpa using h1) (by simpa using h2) (fun j hj => by simpa using h3 (j + 1) (by omega)) (by
      rcases h4 with h | h | h
      · left; simpa using h
      · right; left; simpa using h
      · right; right; simpa using h)]
theorem cpl_self : ∀ (l : List Bs), cpl l l = l.length
  | [] => rfl
  | a :: l => by unfold cpl; rw [if_pos rfl, cpl_self l, List.length_cons]
theorem comL_snoc (opts : List Bs) (s : Bs) (h : opts ≠ []) : comL (opts ++ [s]) = (comL opts).take (cpl (comL opts) (clS s)) := by
  obtain ⟨o, r, rfl⟩ := List.exists_cons_of_ne_nil h
  show (r ++ [s]).foldl _ _ = _
  rw [List.foldl_append]
  rfl
theorem comL_clu (opts : List Bs) : ∀ c ∈ comL opts, Clu c := by
  cases opts with
  | nil => intro c hc; cases hc
  | cons o r =>
    have : ∀ (r : List Bs) (l : List Bs), (∀ c ∈ l, Clu c) → ∀ c ∈ r.foldl (fun l s => l.take (cpl l (clS s))) l, Clu c := by
      intro r
      induction r with
      | nil => intro l h; exact h
      | cons s r ih => intro l h; exact ih _ (fun c hc => h c (List.mem_of_mem_take hc))
    exact this r (clS o) (cl_clu o)
theorem comL_len (opts : List Bs) (h : ∀ s ∈ opts, s.length ≤ 60) : (comL opts).length ≤ 4000 := by
  cases opts with
  | nil => simp [comL]
  | cons o r =>
    have : ∀ (r : List Bs) (l : List Bs), (r.foldl (fun l s => l.take (cpl l (clS s))) l).length ≤ l.length := by
      intro r
      induction r with
      | nil => intro l; exact Nat.le_refl _
      | cons s r ih =>
        intro l
        refine Nat.le_trans (ih _) ?_
        rw [List.length_take]
        omega
    have h1 := this r (clS o)
    have h2 := clS_len o
    have h3 := h o (by simp)
    have h4 : (comL (o :: r)).length ≤ (clS o).length := h1
    omega
/-- The first texts of a row. -/
theorem TxV.head {W : World} {x : Option Addr} {c : Nat} {L : List Bs} (h : TxV W (.slice x L.length c) L) (k : Nat) (hk : k ≤ L.length) : TxV W (.slice x k c) (L.take k) := by
  obtain ⟨h1, h2⟩ := h
  have hl : (L.take k).length = k := by rw [List.length_take]; omega
  refine ⟨by omega, ?_⟩
  rcases h2 with ⟨hv, rfl⟩ | ⟨g, o, c', hv, hc, hg, hget⟩
  · left
    simp only [List.length_nil] at hk
    obtain rfl : k = 0 := by omega
    exact ⟨by simpa using hv, by simp⟩
  · right
    obtain ⟨rfl, rfl⟩ : x = some ⟨g, o, none⟩ ∧ c = c' := by simpa using hv
    refine ⟨g, o, c, by rw [hl], by omega, hg, fun i hi => ?_⟩
    rw [hget i (by omega)]
    congr 3
    rw [List.getD_eq_getElem?_getD, List.getD_eq_getElem?_getD, List.getElem?_take, if_pos (by omega)]
theorem txo (s : ByteArray) : tx s.data.toList = s := by simp [tx]
set_option maxRecDepth 100000 in
theorem strs_of_arg {H : Type} {enc : TypeId × Value → H} {w : World} {r : Reach} {b0 base : Nat} {spare : Nat → Bool} {held : Bool} {v : Value} {d : DataW H} {p : List MemPlace} (hv : Value.okWide Tryz.prog w r b0 26 v) (h : DataW.Trod enc Tryz.prog w base spare held 26 v d p) :
    ∃ a n cap ss, v = .slice a n cap ∧ n ≤ cap ∧ StrsV w a n ss := by
  obtain ⟨a, n, cap, rfl⟩ := okWide_slice Tryz.underlying26 hv
  obtain ⟨fuel, hf⟩ := h
  rcases open_strings Tryz.underlying26 Tryz.underlying9 (by kernel_rfl) (show DataW.trod enc Tryz.prog w base spare held fuel 26 [.slice a n cap] = some _ by simpa [Value.cells] using hf) with ⟨hcs, _⟩ | ⟨a', len, cap', ss, hcs, _, hl, hm, hz, _, hcell, _⟩
  · cases hcs
    exact ⟨none, 0, 0, [], rfl, Nat.le_refl _, rfl, by omega, fun h => absurd h (by omega)⟩
  · cases hcs
    refine ⟨some a', n, cap, (ss.take n).map (·.data.toList), rfl, hl, ?_, by unfold maxLen at hm; omega, fun hp => ?_⟩
    · rw [List.length_map, List.length_take, hz]; split <;> omega
    · have hls : n ≤ ss.length := by rw [hz]; split <;> omega
      obtain ⟨b, off, spot⟩ := a'
      have h0 := hcell 0 (by omega)
      have hs := World.cell?_spot h0
      have hsp : spot = none := by simpa [Addr.add] using hs
      subst hsp
      refine ⟨b, off, rfl, World.block_lt_of_cell? w _ h0, fun i hi => ?_⟩
      have h1 := hcell i (by omega)
      rw [add_plain] at h1
      rw [h1, List.getD_eq_getElem?_getD, List.getD_eq_getElem?_getD, List.getElem?_map, List.getElem?_take_of_lt hi, List.getElem?_eq_getElem (by omega)]
      simp [txo]
end Go.Proofs.YtdehjofmangmbaaGreat
/- Walks: Common of both sides. -/
namespace Go.Proofs.YtdehjofmangmbaaGreat
open Go.RowKit Go.Shelf
/-- One more cluster that both begin with, or none. -/
theorem cpl_cases (L M : List Bs) (j : Nat) (h1 : j ≤ L.length) (h2 : j ≤ M.length) (h3 : ∀ i, i < j → L.getD i [] = M.getD i []) : (j < L.length ∧ j < M.length ∧ L.getD j [] = M.getD j []) ∨ cpl L M = j := by
  by_cases a : j < L.length
  · by_cases b : j < M.length
    · by_cases c : L.getD j [] = M.getD j []
      · exact .inl ⟨a, b, c⟩
      · exact .inr (cpl_is j L M h1 h2 h3 (.inr (.inr c)))
    · exact .inr (cpl_is j L M h1 h2 h3 (.inr (.inl (by omega))))
  · exact .inr (cpl_is j L M h1 h2 h3 (.inl (by omega)))
theorem cpl_le : ∀ (L M : List Bs), cpl L M ≤ L.length
  | [], _ => by unfold cpl; exact Nat.le_refl _
  | _ :: _, [] => by unfold cpl; exact Nat.zero_le _
  | a :: L, b :: M => by
    unfold cpl
    split
    · have := cpl_le L M; rw [List.length_cons]; omega
    · exact Nat.zero_le _
theorem cpl_ne : ∀ {j : Nat} {L M : List Bs}, cpl L M = j → j < L.length → j < M.length → L.getD j [] ≠ M.getD j []
  | j, [], M, _, h, _ => by simp at h
  | j, _ :: _, [], _, _, h => by simp at h
  | 0, a :: L, b :: M, h, _, _ => by
    unfold cpl at h
    split at h
    · omega
    · rename_i q; simpa using q
  | j + 1, a :: L, b :: M, h, h1, h2 => by
    unfold cpl at h
    split at h
    · have := cpl_ne (j := j) (L := L) (M := M) (by omega) (by simpa using h1) (by simpa using h2)
      simpa using this
    · omega
set_option maxRecDepth 100000 in
set_option maxHeartbeats 3000000 in
theorem wcommon (vo : Value) (opts : List Bs) (ho : ∀ s ∈ opts, s.length ≤ 60) (w : World) (h1 : TxV w vo opts) : Calls Tryz.prog 26 #[vo] w fun e w' => e = .returned (.string (tx (comS opts))) ∧ Below w.heap.size w w' := by
  have HCU := Lib.hid (fun (s : Bs) (hs : s ∈ opts) (W : World) => (wcl s (by have := ho s hs; omega) W).mono fun e W' h => h.view (by have := ho s hs; omega))
  have HTX := Lib.hid (fun (v : Value) (W : World) (h : TxV W v (comL opts)) => wtext v (comL opts) (by
    have a1 := comL_len opts ho
    have a2 := flat_short (comL opts) (fun c hc => (comL_clu opts c hc).choose_spec.choose_spec.2.2.2)
    omega) W h)
  have HCL := Lib.hid (fun k => comL_len (opts.take k) (fun s hs => ho s (List.mem_of_mem_take hs)))
  have HSL : Hid (∀ s ∈ opts, (clS s).length ≤ 4000) := Lib.hid (fun s hs => by have := clS_len s; have := ho s hs; omega)
  have HCS : Hid ((comL opts).flatten = comS opts) := Lib.hid rfl
  rw [HCS.out] at HTX
  obtain ⟨xo, co, rfl, hoc, ho6, hog⟩ := h1.old
  have HG := Lib.hid hog
  obtain ⟨n, hn⟩ : ∃ n, n = opts.length := ⟨_, rfl⟩
  have HN := Lib.hid hn
  rw [← hn] at hoc ho6 ⊢
  generalize comS opts = CS at HTX ⊢
  clear h1 hn hog ho HCS
  go_enter Tryz.func26, Tryz.ntmps26
  go_wp2
  go_loopw [3, 10] (fun v i wr => ∃ k : Nat, i = .int .i64 (k : Int) ∧ k ≤ n ∧ Hid (TxV wr v (comL (opts.take k))) ∧ Hid (Below w.heap.size w wr)) (fun _ i _ => n - (intOf i).toNat)
  case atStart => exact ⟨0, rfl, Nat.zero_le _, Lib.hid (TxV.nil _), Lib.hid (Below.refl _ _)⟩
  case round =>
    obtain ⟨k, rfl, hk, HT, HB⟩ := hrel
    obtain ⟨x, c, rfl, hcl, _, _⟩ := HT.out.old
    have i1 : (0 : Int) ≤ (k : Int) := by omega
    by_cases hlt : k < n
    · have i2 : (k : Int) < (n : Int) := by omega
      have hkl : k < opts.length := by have := HN.out; omega
      obtain ⟨go, oo, rfl, hgo, hget⟩ := HG.out (List.ne_nil_of_length_pos (by omega))
      have ce : wr.cell? ⟨go, oo + k, none⟩ = some (.string (tx (opts.getD k []))) := (HB.out.cell (p := ⟨go, oo + k, none⟩) hgo).trans (hget k hkl)
      have hmem : opts.getD k [] ∈ opts := by rw [List.getD_eq_getElem?_getD, List.getElem?_eq_getElem hkl]; exact List.getElem_mem _
      have HCK := Lib.hid (fun W => HCU.out _ hmem W)
      have hm4 := HSL.out _ hmem
      have hl4 := HCL.out k
      have HSN : Hid (comL (opts.take (k + 1)) = (if k = 0 then clS (opts.getD k []) else (comL (opts.take k)).take (cpl (comL (opts.take k)) (clS (opts.getD k []))))) := Lib.hid (by
        rw [List.take_succ_eq_append_getElem hkl]
        have e : opts[k] = opts.getD k [] := by rw [List.getD_eq_getElem?_getD, List.getElem?_eq_getElem hkl]; rfl
        rw [e]
        split
        · rename_i h0; subst h0; rfl
        · exact comL_snoc _ _ (List.ne_nil_of_length_pos (by rw [List.length_take]; omega)))
      generalize comL (opts.take k) = L at HT HSN hcl hl4
      generalize tx (opts.getD k []) = TS at ce HCK
      generalize clS (opts.getD k []) = M at HCK HSN hm4
      clear hget hmem hkl
      go_wp2_with (first | (go_at_call 30; fail))
      refine (HCK.out wr).mono ?_
      rintro e w2 ⟨v2, rfl, h2, hb2⟩
      have HB2 := Lib.hid (HB.out.trans (below_le hb2 HB.out.size))
      have HT2 := Lib.hid (HT.out.below hb2)
      have HV2 := Lib.hid h2
      obtain ⟨x2, c2, rfl, hcl2, _, _⟩ := h2.old
      clear h2 hb2 HB HT ce HCK
      have inner : ∀ (P : List Bs) (y : Option Addr) (d : Nat), TxV w2 (.slice y P.length d) P → ∀ j, j < P.length → ∀ W, Below w2.heap.size w2 W → ∃ g o, y = some ⟨g, o, none⟩ ∧ P.length ≤ d ∧ W.cell? ⟨g, o + j, none⟩ = some (.string (tx (P.getD j []))) := by
        intro P y d hP j hj W hW
        obtain ⟨y', d', he, hd, _, hh⟩ := hP.old
        obtain ⟨rfl, rfl⟩ : y = y' ∧ d = d' := by simpa using he
        obtain ⟨g, o, e, hg, hget⟩ := hh (List.ne_nil_of_length_pos (by omega))
        exact ⟨g, o, e, hd, (hW.cell (p := ⟨g, o + j, none⟩) hg).trans (hget j hj)⟩
      have HIN := Lib.hid inner
      clear inner
      rcases Nat.eq_zero_or_pos k with hk0 | hk0
      · subst hk0
        have HN0 : Hid (∀ j W, Below w2.heap.size w2 W → cpl M M = j → TxV W (.slice x2 j c2) (comL (opts.take (0 + 1)))) := Lib.hid (fun j W hW hj => by
          rw [HSN.out, if_pos rfl]
          rw [cpl_self] at hj
          subst hj
          exact HV2.out.below hW)
        go_wp2
        go_loopw [7] (fun iv wr => ∃ j : Nat, iv = .int .i64 (j : Int) ∧ j ≤ M.length ∧ j ≤ M.length ∧ Hid (∀ i, i < j → M.getD i [] = M.getD i []) ∧ Hid (Below w2.heap.size w2 wr)) (fun iv _ => M.length - (intOf iv).toNat)
        case atStart => exact ⟨0, rfl, Nat.zero_le _, Nat.zero_le _, Lib.hid (fun i h => by omega), Lib.hid (Below.refl _ _)⟩
        case round =>
          obtain ⟨j, rfl, hj1, hj2, HE, HW⟩ := hrel
          have j0 : (0 : Int) ≤ (j : Int) := by omega
          have HB5 : Hid (∀ nq, Below w2.heap.size w2 (wr.drewN nq)) := Lib.hid (fun nq => below_drewN HW.out nq)
          rcases cpl_cases M M j hj1 hj2 HE.out with ⟨g1, g2, g3⟩ | hcp
          · skip
            obtain ⟨ga, oa, hya, hda, ea⟩ := HIN.out M x2 c2 HV2.out j g1 wr HW.out
            obtain ⟨gb, ob, hyb, hdb, eb⟩ := HIN.out M x2 c2 HV2.out j g2 wr HW.out
            subst hyb
            obtain ⟨rfl, rfl⟩ : ga = gb ∧ oa = ob := by simpa using hya.symm
            have HX : Hid (∀ i, i < j + 1 → M.getD i [] = M.getD i []) := Lib.hid (fun i hi => by
              rfl)
            generalize tx (M.getD j []) = U at ea eb
            have d1 : decide (j < M.length) = true := decide_eq_true g1
            have d2 : decide ((j : Int) < (M.length : Int)) = true := decide_eq_true (by omega)
            have d5 : (U.toList == U.toList) = true := by simp
            clear HE g3
            go_wp2
            go_quiet (fail)
            go_wp2
            go_roundw
            case rel => exact ⟨j + 1, by go_num, by omega, by omega, HX, HB5.out _⟩
            case measure => simp [intOf]; omega
          · have HCP := Lib.hid hcp
            clear hcp
            by_cases g1 : j < M.length
            · have d1 : decide (j < M.length) = true := decide_eq_true g1
              have d2 : decide ((j : Int) < (M.length : Int)) = true := decide_eq_true (by omega)
              by_cases g2 : j < M.length
              · have g3 : M.getD j [] ≠ M.getD j [] := cpl_ne HCP.out g1 g2
                exact absurd rfl g3
              · have d3 : decide (j < M.length) = false := decide_eq_false g2
                exact absurd g1 g2
            · have d1 : decide (j < M.length) = false := decide_eq_false g1
              have d2 : decide ((j : Int) < (M.length : Int)) = false := decide_eq_false (by omega)
              go_wp2
              go_quiet (fail)
              go_wp2
              go_roundw
              case rel => exact ⟨0 + 1, by go_num, by omega, HN0.out j _ (HB5.out _) HCP.out, HB2.out.trans (below_le (HB5.out _) HB2.out.size)⟩
              case measure => simp [intOf]; omega
      · have hk1 : ((k : Int) == 0) = false := by rw [beq_eq_false_iff_ne]; omega
        have HN1 : Hid (∀ j W, Below w2.heap.size w2 W → cpl L M = j → TxV W (.slice x j c) (comL (opts.take (k + 1)))) := Lib.hid (fun j W hW hj => by
          rw [HSN.out, if_neg (by omega), hj]
          refine TxV.head (HT2.out.below hW) j ?_
          have := cpl_le L M
          omega)
        go_wp2
        go_loopw [7] (fun iv wr => ∃ j : Nat, iv = .int .i64 (j : Int) ∧ j ≤ L.length ∧ j ≤ M.length ∧ Hid (∀ i, i < j → L.getD i [] = M.getD i []) ∧ Hid (Below w2.heap.size w2 wr)) (fun iv _ => M.length - (intOf iv).toNat)
        case atStart => exact ⟨0, rfl, Nat.zero_le _, Nat.zero_le _, Lib.hid (fun i h => by omega), Lib.hid (Below.refl _ _)⟩
        case round =>
          obtain ⟨j, rfl, hj1, hj2, HE, HW⟩ := hrel
          have j0 : (0 : Int) ≤ (j : Int) := by omega
          have HB5 : Hid (∀ nq, Below w2.heap.size w2 (wr.drewN nq)) := Lib.hid (fun nq => below_drewN HW.out nq)
          rcases cpl_cases L M j hj1 hj2 HE.out with ⟨g1, g2, g3⟩ | hcp
          · skip
            obtain ⟨ga, oa, hya, hda, ea⟩ := HIN.out L x c HT2.out j g1 wr HW.out
            obtain ⟨gb, ob, hyb, hdb, eb⟩ := HIN.out M x2 c2 HV2.out j g2 wr HW.out
            subst hyb
            subst hya
            have HX : Hid (∀ i, i < j + 1 → L.getD i [] = M.getD i []) := Lib.hid (fun i hi => by
              by_cases e : i = j
              · rw [e]; exact g3
              · exact HE.out i (by omega))
            rw [g3] at ea
            generalize tx (M.getD j []) = U at ea eb
            have d1 : decide (j < L.length) = true := decide_eq_true g1
            have d2 : decide ((j : Int) < (L.length : Int)) = true := decide_eq_true (by omega)
            have d3 : decide (j < M.length) = true := decide_eq_true g2
            have d4 : decide ((j : Int) < (M.length : Int)) = true := decide_eq_true (by omega)
            have d5 : (U.toList == U.toList) = true := by simp
            clear HE g3
            go_wp2
            go_quiet (fail)
            go_wp2
            go_roundw
            case rel => exact ⟨j + 1, by go_num, by omega, by omega, HX, HB5.out _⟩
            case measure => simp [intOf]; omega
          · have HCP := Lib.hid hcp
            clear hcp
            by_cases g1 : j < L.length
            · have d1 : decide (j < L.length) = true := decide_eq_true g1
              have d2 : decide ((j : Int) < (L.length : Int)) = true := decide_eq_true (by omega)
              by_cases g2 : j < M.length
              · have g3 : L.getD j [] ≠ M.getD j [] := cpl_ne HCP.out g1 g2
                obtain ⟨ga, oa, hya, hda, ea⟩ := HIN.out L x c HT2.out j g1 wr HW.out
                obtain ⟨gb, ob, hyb, hdb, eb⟩ := HIN.out M x2 c2 HV2.out j g2 wr HW.out
                subst hyb
                subst hya
                have d5 : ((tx (L.getD j [])).toList == (tx (M.getD j [])).toList) = false := by rw [beq_bytes, decide_eq_false (fun e => g3 (by have := congrArg (·.data.toList) e; simpa [tx] using this))]
                generalize tx (L.getD j []) = U1 at ea d5
                generalize tx (M.getD j []) = U2 at eb d5
                have d3 : decide (j < M.length) = true := decide_eq_true g2
                have d4 : decide ((j : Int) < (M.length : Int)) = true := decide_eq_true (by omega)
                clear g3 HE
                go_wp2
                go_quiet (fail)
                go_wp2
                go_roundw
                case rel => exact ⟨k + 1, by go_num, by omega, HN1.out j _ (HB5.out _) HCP.out, HB2.out.trans (below_le (HB5.out _) HB2.out.size)⟩
                case measure => simp [intOf]; omega
              · have d3 : decide (j < M.length) = false := decide_eq_false g2
                have d4 : decide ((j : Int) < (M.length : Int)) = false := decide_eq_false (by omega)
                go_wp2
                go_quiet (fail)
                go_wp2
                go_roundw
                case rel => exact ⟨k + 1, by go_num, by omega, HN1.out j _ (HB5.out _) HCP.out, HB2.out.trans (below_le (HB5.out _) HB2.out.size)⟩
                case measure => simp [intOf]; omega
            · have d1 : decide (j < L.length) = false := decide_eq_false g1
              have d2 : decide ((j : Int) < (L.length : Int)) = false := decide_eq_false (by omega)
              go_wp2
              go_quiet (fail)
              go_wp2
              go_roundw
              case rel => exact ⟨k + 1, by go_num, by omega, HN1.out j _ (HB5.out _) HCP.out, HB2.out.trans (below_le (HB5.out _) HB2.out.size)⟩
              case measure => simp [intOf]; omega
    · obtain rfl : k = n := by omega
      have i2 : ¬ (k : Int) < (k : Int) := by omega
      have HTK := Lib.hid (fun (h : TxV wr (.slice x (comL (opts.take k)).length c) (comL opts)) => HTX.out _ wr h)
      have HT9 : Hid (TxV wr (.slice x (comL (opts.take k)).length c) (comL opts)) := Lib.hid (by
        have h := HT.out
        have e : opts.take k = opts := List.take_of_length_le (by have := HN.out; omega)
        rw [e] at h ⊢
        exact h)
      generalize (comL (opts.take k)).length = m at HTK HT9 hcl ⊢
      clear HT
      go_wp2_with (first | (go_at_call 36; fail))
      refine (HTK.out HT9.out).mono ?_
      rintro e w2 ⟨rfl, rfl⟩
      go_wp2
      go_ret
      exact ⟨rfl, HB.out⟩
theorem comL_take (opts : List Bs) (o : Bs) (r : List Bs) (h : opts = o :: r) : ∀ k, 1 ≤ k → comL (opts.take k) = (clS o).take (comL (opts.take k)).length := by
  subst h
  have : ∀ (r : List Bs) (n : Nat), ∃ m, r.foldl (fun l s => l.take (cpl l (clS s))) ((clS o).take n) = (clS o).take m := by
    intro r
    induction r with
    | nil => intro n; exact ⟨n, rfl⟩
    | cons s r ih =>
      intro n
      rw [List.foldl_cons, List.take_take]
      exact ih _
  intro k hk
  obtain ⟨k', rfl⟩ : ∃ k', k = k' + 1 := ⟨k - 1, by omega⟩
  rw [List.take_succ_cons]
  obtain ⟨m, e⟩ := this (r.take k') (clS o).length
  rw [List.take_length] at e
  have e2 : comL (o :: r.take k') = (clS o).take m := e
  rw [e2, List.length_take]
  rw [← List.take_take, List.take_length]
set_option maxRecDepth 100000 in
set_option maxHeartbeats 3000000 in
theorem rcommon (vo : Value) (opts : List Bs) (ho : ∀ s ∈ opts, s.length ≤ 60) (w : World) (h1 : TxV w vo opts) : Calls Tryz.prog 27 #[vo] w fun e w' => e = .returned (.string (tx (comS opts))) ∧ Below w.heap.size w w' := by
  have HCU := Lib.hid (fun (s : Bs) (hs : s ∈ opts) (W : World) => (rcl s (by have := ho s hs; omega) W).mono fun e W' h => h.view (by have := ho s hs; omega))
  have HTX := Lib.hid (fun (v : Value) (W : World) (h : TxV W v (comL opts)) => rjoin v (comL opts) (by
    have a1 := comL_len opts ho
    have a2 := flat_short (comL opts) (fun c hc => (comL_clu opts c hc).choose_spec.choose_spec.2.2.2)
    omega) W h)
  have HSL : Hid (∀ s ∈ opts, (clS s).length ≤ 4000) := Lib.hid (fun s hs => by have := clS_len s; have := ho s hs; omega)
  have HCS : Hid ((comL opts).flatten = comS opts) := Lib.hid rfl
  rw [HCS.out] at HTX
  obtain ⟨xo, co, rfl, hoc, ho6, hog⟩ := h1.old
  cases hopts : opts with
  | nil =>
    have l0 : ([] : List Bs).length = 0 := rfl
    have e0 : comS [] = [] := rfl
    rw [l0, e0]
    clear HCU HTX HSL HCS hog hoc ho6 h1 ho l0 e0
    go_enter Tryz.func27, Tryz.ntmps27
    go_wp2
    go_ret
    exact ⟨rfl, Below.refl _ _⟩
  | cons o r =>
    rw [← hopts]
    have HG := Lib.hid hog
    have hpos : 0 < opts.length := by rw [hopts]; simp
    have hm0 : o ∈ opts := by rw [hopts]; simp
    have hg0 : opts.getD 0 [] = o := by rw [hopts]; rfl
    have HCT := Lib.hid (comL_take opts o r hopts)
    have HC1 : Hid (comL (opts.take 1) = clS o) := Lib.hid (by rw [hopts]; rfl)
    have HOK := Lib.hid (fun W => HCU.out o hm0 W)
    have hO4 := HSL.out o hm0
    obtain ⟨n, hn⟩ : ∃ n, n = opts.length := ⟨_, rfl⟩
    have HN := Lib.hid hn
    rw [← hn] at hoc ho6 hpos ⊢
    obtain ⟨g0, o0, rfl, hg0', hget0⟩ := HG.out (List.ne_nil_of_length_pos (by omega))
    have c0 : w.cell? ⟨g0, o0, none⟩ = some (.string (tx o)) := by have := hget0 0 (by omega); rw [hg0] at this; simpa using this
    have HC0 := Lib.hid (And.intro hg0' hget0)
    have nz : ((n : Int) == 0) = false := by rw [beq_eq_false_iff_ne]; omega
    have np : (0 : Int) < (n : Int) := by omega
    generalize comS opts = CS at HTX ⊢
    generalize clS o = O at HCT HC1 HOK hO4
    generalize tx o = TO at c0 HOK
    clear h1 hn hog ho HCS hopts hm0 hg0 hg0' hget0 HG
    go_enter Tryz.func27, Tryz.ntmps27
    go_wp2_with (first | (go_at_call 28; fail))
    refine (HOK.out w).mono ?_
    rintro e w1 ⟨v1, rfl, h1, hb1⟩
    have HB1 := Lib.hid hb1
    have HO1 := Lib.hid h1
    obtain ⟨x, c, rfl, hcl, _, _⟩ := h1.old
    clear h1 hb1 c0 HOK
    go_wp2
    go_loopw [4, 5] (fun nv iv wr => ∃ k : Nat, iv = .int .i64 (k : Int) ∧ 1 ≤ k ∧ k ≤ n ∧ nv = .int .i64 (((comL (opts.take k)).length : Nat) : Int) ∧ Hid (Below w1.heap.size w1 wr)) (fun _ iv _ => n - (intOf iv).toNat)
    case atStart => exact ⟨1, rfl, by omega, by omega, by rw [HC1.out], Lib.hid (Below.refl _ _)⟩
    case round =>
      obtain ⟨k, rfl, hk1, hk, rfl, HB⟩ := hrel
      have i1 : (0 : Int) ≤ (k : Int) := by omega
      have HPT := Lib.hid (HCT.out k hk1)
      have hPO : (comL (opts.take k)).length ≤ O.length := by
        have := congrArg List.length HPT.out
        rw [List.length_take] at this
        omega
      by_cases hlt : k < n
      · have i2 : (k : Int) < (n : Int) := by omega
        have hkl : k < opts.length := by have := HN.out; omega
        have ce : wr.cell? ⟨g0, o0 + k, none⟩ = some (.string (tx (opts.getD k []))) := (HB.out.cell (p := ⟨g0, o0 + k, none⟩) (Nat.lt_of_lt_of_le HC0.out.1 HB1.out.size)).trans ((HB1.out.cell (p := ⟨g0, o0 + k, none⟩) HC0.out.1).trans (HC0.out.2 k hkl))
        have hmem : opts.getD k [] ∈ opts := by rw [List.getD_eq_getElem?_getD, List.getElem?_eq_getElem hkl]; exact List.getElem_mem _
        have HCK := Lib.hid (fun W => HCU.out _ hmem W)
        have hm4 := HSL.out _ hmem
        have HSN : Hid (comL (opts.take (k + 1)) = (comL (opts.take k)).take (cpl (comL (opts.take k)) (clS (opts.getD k [])))) := Lib.hid (by
          rw [List.take_succ_eq_append_getElem hkl]
          have e : opts[k] = opts.getD k [] := by rw [List.getD_eq_getElem?_getD, List.getElem?_eq_getElem hkl]; rfl
          rw [e]
          exact comL_snoc _ _ (List.ne_nil_of_length_pos (by rw [List.length_take]; omega)))
        have HTL : Hid (TxV w1 (.slice x (comL (opts.take k)).length c) (comL (opts.take k))) := Lib.hid (by
          have h := TxV.head HO1.out (comL (opts.take k)).length hPO
          rw [← HPT.out] at h
          exact h)
        generalize comL (opts.take k) = L at HSN HTL HPT hPO ⊢
        generalize tx (opts.getD k []) = TS at ce HCK
        generalize clS (opts.getD k []) = M at HCK HSN hm4
        clear hmem hkl
        go_wp2_with (first | (go_at_call 28; fail))
        refine (HCK.out wr).mono ?_
        rintro e w2 ⟨v2, rfl, h2, hb2⟩
        have HB2 := Lib.hid (HB.out.trans (below_le hb2 HB.out.size))
        have HT2 := Lib.hid (HTL.out.below HB2.out)
        have HV2 := Lib.hid h2
        obtain ⟨x2, c2, rfl, hcl2, _, _⟩ := h2.old
        clear h2 hb2 HB ce HCK HTL
        have inner : ∀ (P : List Bs) (y : Option Addr) (d : Nat), TxV w2 (.slice y P.length d) P → ∀ j, j < P.length → ∀ W, Below w2.heap.size w2 W → ∃ g o, y = some ⟨g, o, none⟩ ∧ P.length ≤ d ∧ W.cell? ⟨g, o + j, none⟩ = some (.string (tx (P.getD j []))) := by
          intro P y d hP j hj W hW
          obtain ⟨y', d', he, hd, _, hh⟩ := hP.old
          obtain ⟨rfl, rfl⟩ : y = y' ∧ d = d' := by simpa using he
          obtain ⟨g, o, e, hg, hget⟩ := hh (List.ne_nil_of_length_pos (by omega))
          exact ⟨g, o, e, hd, (hW.cell (p := ⟨g, o + j, none⟩) hg).trans (hget j hj)⟩
        have HIN := Lib.hid inner
        have HLN : Hid (∀ j, cpl L M = j → j = (comL (opts.take (k + 1))).length) := Lib.hid (fun j hj => by
          rw [HSN.out, List.length_take, hj]
          have := cpl_le L M
          omega)
        clear inner
        go_wp2
        go_loopw [7] (fun iv wr => ∃ j : Nat, iv = .int .i64 (j : Int) ∧ j ≤ L.length ∧ j ≤ M.length ∧ Hid (∀ i, i < j → L.getD i [] = M.getD i []) ∧ Hid (Below w2.heap.size w2 wr)) (fun iv _ => M.length - (intOf iv).toNat)
        case atStart => exact ⟨0, rfl, Nat.zero_le _, Nat.zero_le _, Lib.hid (fun i h => by omega), Lib.hid (Below.refl _ _)⟩
        case round =>
          obtain ⟨j, rfl, hj1, hj2, HE, HW⟩ := hrel
          have j0 : (0 : Int) ≤ (j : Int) := by omega
          have HB5 : Hid (∀ nq, Below w2.heap.size w2 (wr.drewN nq)) := Lib.hid (fun nq => below_drewN HW.out nq)
          rcases cpl_cases L M j hj1 hj2 HE.out with ⟨g1, g2, g3⟩ | hcp
          · skip
            obtain ⟨ga, oa, hya, hda, ea⟩ := HIN.out L x c HT2.out j g1 wr HW.out
            obtain ⟨gb, ob, hyb, hdb, eb⟩ := HIN.out M x2 c2 HV2.out j g2 wr HW.out
            subst hyb
            subst hya
            have HX : Hid (∀ i, i < j + 1 → L.getD i [] = M.getD i []) := Lib.hid (fun i hi => by
              by_cases e : i = j
              · rw [e]; exact g3
              · exact HE.out i (by omega))
            rw [g3] at ea
            have x1 : (j : Int) < (O.length : Int) := by omega
            have x2' : j < O.length := by omega
            generalize tx (M.getD j []) = U at ea eb
            have d1 : decide (j < L.length) = true := decide_eq_true g1
            have d2 : decide ((j : Int) < (L.length : Int)) = true := decide_eq_true (by omega)
            have d3 : decide (j < M.length) = true := decide_eq_true g2
            have d4 : decide ((j : Int) < (M.length : Int)) = true := decide_eq_true (by omega)
            have d5 : (U.toList == U.toList) = true := by simp
            clear HE g3
            go_wp2
            go_quiet (fail)
            go_wp2
            go_roundw
            case rel => exact ⟨j + 1, by go_num, by omega, by omega, HX, HB5.out _⟩
            case measure => simp [intOf]; omega
          · have HCP := Lib.hid hcp
            clear hcp
            by_cases g1 : j < L.length
            · have d1 : decide (j < L.length) = true := decide_eq_true g1
              have d2 : decide ((j : Int) < (L.length : Int)) = true := decide_eq_true (by omega)
              by_cases g2 : j < M.length
              · have g3 : L.getD j [] ≠ M.getD j [] := cpl_ne HCP.out g1 g2
                have x1 : (j : Int) < (O.length : Int) := by omega
                have x2' : j < O.length := by omega
                obtain ⟨ga, oa, hya, hda, ea⟩ := HIN.out L x c HT2.out j g1 wr HW.out
                obtain ⟨gb, ob, hyb, hdb, eb⟩ := HIN.out M x2 c2 HV2.out j g2 wr HW.out
                subst hyb
                subst hya
                have d5 : ((tx (L.getD j [])).toList == (tx (M.getD j [])).toList) = false := by rw [beq_bytes, decide_eq_false (fun e => g3 (by have := congrArg (·.data.toList) e; simpa [tx] using this))]
                generalize tx (L.getD j []) = U1 at ea d5
                generalize tx (M.getD j []) = U2 at eb d5
                have d3 : decide (j < M.length) = true := decide_eq_true g2
                have d4 : decide ((j : Int) < (M.length : Int)) = true := decide_eq_true (by omega)
                clear g3 HE
                go_wp2
                go_quiet (fail)
                go_wp2
                go_roundw
                case rel => exact ⟨k + 1, by go_num, by omega, by omega, by rw [HLN.out j HCP.out], HB2.out.trans (below_le (HB5.out _) HB2.out.size) |> Lib.hid⟩
                case measure => simp [intOf]; omega
              · have d3 : decide (j < M.length) = false := decide_eq_false g2
                have d4 : decide ((j : Int) < (M.length : Int)) = false := decide_eq_false (by omega)
                go_wp2
                go_quiet (fail)
                go_wp2
                go_roundw
                case rel => exact ⟨k + 1, by go_num, by omega, by omega, by rw [HLN.out j HCP.out], HB2.out.trans (below_le (HB5.out _) HB2.out.size) |> Lib.hid⟩
                case measure => simp [intOf]; omega
            · have d1 : decide (j < L.length) = false := decide_eq_false g1
              have d2 : decide ((j : Int) < (L.length : Int)) = false := decide_eq_false (by omega)
              go_wp2
              go_quiet (fail)
              go_wp2
              go_roundw
              case rel => exact ⟨k + 1, by go_num, by omega, by omega, by rw [HLN.out j HCP.out], HB2.out.trans (below_le (HB5.out _) HB2.out.size) |> Lib.hid⟩
              case measure => simp [intOf]; omega
      · obtain rfl : k = n := by omega
        have i2 : ¬ (k : Int) < (k : Int) := by omega
        have HT9 : Hid (TxV wr (.slice x (comL (opts.take k)).length c) (comL opts)) := Lib.hid (by
          have h := TxV.head (HO1.out.below HB.out) (comL (opts.take k)).length hPO
          rw [← HPT.out] at h
          have e : opts.take k = opts := List.take_of_length_le (by have := HN.out; omega)
          rw [e] at h ⊢
          exact h)
        have HTK := Lib.hid (HTX.out _ wr HT9.out)
        have hmO : (comL (opts.take k)).length ≤ O.length := hPO
        clear HPT hPO
        generalize (comL (opts.take k)).length = m at HTK hmO ⊢
        have hmc : m ≤ c := by omega
        clear HT9
        go_wp2_with (first | (go_at_call 37; fail))
        refine HTK.out.mono ?_
        rintro e w2 ⟨rfl, rfl⟩
        go_wp2
        go_ret
        exact ⟨rfl, HB1.out.trans (below_le HB.out HB1.out.size)⟩
end Go.Proofs.YtdehjofmangmbaaGreat
/- Walks: the law FilterCommon. -/
namespace Go.Proofs.YtdehjofmangmbaaGreat
open Go.RowKit Go.Shelf
theorem cpl_take : ∀ (L M : List Bs), L.take (cpl L M) = M.take (cpl L M) ∧ cpl L M ≤ M.length
  | [], M => by unfold cpl; exact ⟨by simp, Nat.zero_le _⟩
  | _ :: _, [] => by unfold cpl; exact ⟨by simp, Nat.zero_le _⟩
  | a :: L, b :: M => by
    unfold cpl
    split
    · rename_i h
      subst h
      have := cpl_take L M
      exact ⟨by rw [List.take_succ_cons, List.take_succ_cons, this.1], by rw [List.length_cons]; omega⟩
    · exact ⟨by simp, Nat.zero_le _⟩
/-- What is common is what all begin with, and no more. -/
theorem com_inv {opts : List Bs} {o : Bs} {r : List Bs} (h : opts = o :: r) : ∀ k, 1 ≤ k → k ≤ opts.length →
    (∀ j, j < k → (comL (opts.take k)).length ≤ (clS (opts.getD j [])).length ∧ (clS (opts.getD j [])).take (comL (opts.take k)).length = comL (opts.take k)) ∧
    ∃ j, j < k ∧ ¬ ((comL (opts.take k)).length < (clS (opts.getD j [])).length ∧ (clS (opts.getD j [])).getD (comL (opts.take k)).length [] = (clS o).getD (comL (opts.take k)).length [])
  | 0, h0, _ => by omega
  | 1, _, _ => by
    have e : comL (opts.take 1) = clS o := by rw [h]; rfl
    have e2 : opts.getD 0 [] = o := by rw [h]; rfl
    rw [e]
    refine ⟨fun j hj => ?_, 0, by omega, ?_⟩
    · obtain rfl : j = 0 := by omega
      rw [e2]
      exact ⟨Nat.le_refl _, List.take_length⟩
    · rw [e2]; omega
  | k + 2, _, hk => by
    obtain ⟨ih1, jw, hw, ih2⟩ := com_inv h (k + 1) (by omega) (by omega)
    have hT := comL_take opts o r h (k + 1) (by omega)
    have hS : comL (opts.take (k + 2)) = (comL (opts.take (k + 1))).take (cpl (comL (opts.take (k + 1))) (clS (opts.getD (k + 1) []))) := by
      have hkl : k + 1 < opts.length := by omega
      rw [List.take_succ_eq_append_getElem hkl]
      have e : opts[k + 1] = opts.getD (k + 1) [] := by rw [List.getD_eq_getElem?_getD, List.getElem?_eq_getElem hkl]; rfl
      rw [e]
      exact comL_snoc _ _ (List.ne_nil_of_length_pos (by rw [List.length_take]; omega))
    generalize comL (opts.take (k + 1)) = C at ih1 ih2 hT hS
    have hle := cpl_le C (clS (opts.getD (k + 1) []))
    have htk := cpl_take C (clS (opts.getD (k + 1) []))
    have hcn := @cpl_ne (cpl C (clS (opts.getD (k + 1) []))) C (clS (opts.getD (k + 1) [])) rfl
    generalize cpl C (clS (opts.getD (k + 1) [])) = j at hS hle htk hcn
    have hl : (comL (opts.take (k + 2))).length = j := by rw [hS, List.length_take]; omega
    rw [hl, hS]
    refine ⟨fun i hi => ?_, ?_⟩
    · rcases Nat.lt_or_ge i (k + 1) with q | q
      · obtain ⟨a1, a2⟩ := ih1 i q
        refine ⟨by omega, ?_⟩
        have : (clS (opts.getD i [])).take j = ((clS (opts.getD i [])).take C.length).take j := by rw [List.take_take, Nat.min_eq_left hle]
        rw [this, a2]
      · obtain rfl : i = k + 1 := by omega
        exact ⟨htk.2, htk.1.symm⟩
    · by_cases hj : j = C.length
      · exact ⟨jw, by omega, by rw [hj]; exact ih2⟩
      · refine ⟨k + 1, by omega, fun ⟨q1, q2⟩ => ?_⟩
        refine hcn (by omega) q1 ?_
        rw [q2, hT, List.getD_eq_getElem?_getD, List.getD_eq_getElem?_getD, List.getElem?_take, if_pos (by omega)]
/-- Have all options ahead of a place one cluster more that is alike? -/
def lng (opts : List Bs) (C : List Bs) (k : Nat) : Bool := decide (0 < opts.length ∧ ∀ j, j < k → C.length < (clS (opts.getD j [])).length ∧ (clS (opts.getD j [])).getD C.length [] = (clS (opts.getD 0 [])).getD C.length [])
theorem lng_zero (opts C : List Bs) : lng opts C 0 = decide (0 < opts.length) := by unfold lng; exact decide_eq_decide.2 ⟨fun h => h.1, fun h => ⟨h, fun j hj => by omega⟩⟩
theorem lng_succ (opts C : List Bs) (k : Nat) : lng opts C (k + 1) = (lng opts C k && decide (C.length < (clS (opts.getD k [])).length ∧ (clS (opts.getD k [])).getD C.length [] = (clS (opts.getD 0 [])).getD C.length [])) := by
  unfold lng
  rw [← Bool.decide_and]
  refine decide_eq_decide.2 ⟨fun ⟨h1, h2⟩ => ⟨⟨h1, fun j hj => h2 j (by omega)⟩, h2 k (by omega)⟩, fun ⟨⟨h1, h2⟩, h3⟩ => ⟨h1, fun j hj => ?_⟩⟩
  rcases Nat.lt_or_ge j k with q | q
  · exact h2 j q
  · obtain rfl : j = k := by omega
    exact h3
theorem lng_no (opts : List Bs) : lng opts (comL opts) opts.length = false := by
  cases h : opts with
  | nil => unfold lng; simp
  | cons o r =>
    rw [← h]
    obtain ⟨_, j, hj, h2⟩ := com_inv h opts.length (by rw [h]; simp) (Nat.le_refl _)
    rw [List.take_length] at h2
    have e2 : opts.getD 0 [] = o := by rw [h]; rfl
    unfold lng
    refine decide_eq_false (fun q => h2 ?_)
    have := q.2 j hj
    rw [e2] at this
    exact this
theorem com_head (opts : List Bs) (j : Nat) (hj : j < opts.length) : (comL opts).length ≤ (clS (opts.getD j [])).length ∧ (clS (opts.getD j [])).take (comL opts).length = comL opts := by
  obtain ⟨o, r, h⟩ := List.exists_cons_of_ne_nil (List.ne_nil_of_length_pos (show 0 < opts.length by omega))
  have := (com_inv h opts.length (by omega) (Nat.le_refl _)).1 j hj
  rwa [List.take_length] at this
set_option maxRecDepth 100000 in
set_option maxHeartbeats 4000000 in
theorem common_law (x0 : Option Addr) (n0 c0 : Nat) (ss : List Bs) (w : World) (hc0 : n0 ≤ c0) (hs0 : StrsV w x0 n0 ss) : Calls Tryz.prog 6 #[.slice x0 n0 c0] w fun e w' => e = .returned (.bool true) ∧ Below w.heap.size w w' := by
  have HFE := Lib.hid (lfew x0 n0 c0 ss hc0 w hs0)
  have hsh := fewL_short ss 40
  have hln : (fewL ss 40).length ≤ 40 := by unfold fewL; rw [List.length_map, List.length_take]; omega
  generalize fewL ss 40 = L at HFE hsh hln
  have HCW := Lib.hid (fun v W h => wcommon v L hsh W h)
  have HCR := Lib.hid (fun v W h => rcommon v L hsh W h)
  have hcf : (comS L).length ≤ 900000 := by
    have a1 := comL_len L hsh
    have a2 := flat_short (comL L) (fun c hc => (comL_clu L c hc).choose_spec.choose_spec.2.2.2)
    unfold comS
    omega
  have HCU := Lib.hid (fun W => rcut (comS L) hcf W)
  unfold CutEnd at HCU
  have HCE : Hid (cutS (comS L) = comL L) := Lib.hid (cut_flat _ (comL_clu L))
  rw [HCE.out] at HCU
  have HSL : Hid (∀ s ∈ L, (clS s).length ≤ 4000) := Lib.hid (fun s hs => by have := clS_len s; have := hsh s hs; omega)
  have HCL := Lib.hid (fun (s : Bs) (hs : s ∈ L) (W : World) => (rcl s (by have := hsh s hs; omega) W).mono fun e W' h => h.view (by have := hsh s hs; omega))
  have HHD := Lib.hid (com_head L)
  have HL0 := Lib.hid (lng_zero L (comL L))
  have HLS := Lib.hid (lng_succ L (comL L))
  have HLE := Lib.hid (lng_no L)
  have hC4 := comL_len L hsh
  have hempty : L.length = 0 → comS L = [] := fun h => by rw [List.length_eq_zero_iff.1 h]; rfl
  have HEM : Hid (L.length = 0 → tx (comS L) = ⟨#[]⟩) := Lib.hid (fun h => by rw [hempty h]; rfl)
  generalize comL L = C at HCU HHD HL0 HLS HLE hC4
  generalize tx (comS L) = TS at HCW HCR HCU HEM
  clear hcf HCE hs0 hc0 hempty hsh
  go_enter Tryz.func6, Tryz.ntmps6
  go_wp2_with (first | (go_at_call 22; fail))
  refine HFE.out.mono ?_
  rintro e w1 ⟨v1, rfl, hv1, hb1⟩
  have ht1 := TxV.of_row hv1 (by omega)
  have HT1 := Lib.hid ht1
  have HB1 := Lib.hid hb1
  obtain ⟨x1, c1, rfl, hc1, _, _⟩ := ht1.old
  clear hv1 hb1 ht1 HFE
  go_wp2_with (first | (go_at_call 26; fail))
  refine (HCW.out _ w1 HT1.out).mono ?_
  rintro e w2 ⟨rfl, hb2⟩
  have HB2 := Lib.hid (HB1.out.trans (below_le hb2 HB1.out.size))
  have HT2 := Lib.hid (HT1.out.below hb2)
  clear hb2 HT1 HB1
  go_wp2_with (first | (go_at_call 27; fail))
  refine (HCR.out _ w2 HT2.out).mono ?_
  rintro e w3 ⟨rfl, hb3⟩
  have HB3 := Lib.hid (HB2.out.trans (below_le hb3 HB2.out.size))
  have HT3 := Lib.hid (HT2.out.below hb3)
  clear hb3 HT2 HB2
  have n3 : (TS.toList == TS.toList) = true := by simp
  by_cases hl0 : L.length = 0
  · have hTS := HEM.out hl0
    obtain rfl : L = [] := List.length_eq_zero_iff.1 hl0
    have l0 : ([] : List Bs).length = 0 := rfl
    rw [l0]
    subst hTS
    clear hl0 HEM HSL HCL HHD HL0 HLS HLE hln l0 HT3 HCW HCR
    go_wp2_with (first | (go_at_call 15; fail))
    refine (wawake w3).mono ?_
    rintro e w4 ⟨rfl, hb4⟩
    have HB4 := Lib.hid (HB3.out.trans (below_le hb4 HB3.out.size))
    clear hb4 HB3
    go_wp2_with (first | (go_at_call 21; fail))
    refine (HCU.out w4).mono ?_
    rintro e w5 ⟨v5, rfl, hv5, hb5⟩
    have HB5 := Lib.hid (HB4.out.trans (below_le hb5 HB4.out.size))
    clear hb5 HB4 hv5
    go_wp2
    go_loopw [5, 6] (fun bv iv wr => bv = .bool false ∧ iv = .int .i64 0 ∧ wr = w5) (fun _ _ _ => 0)
    case atStart => exact ⟨rfl, rfl, rfl⟩
    case round =>
      obtain ⟨rfl, rfl, rfl⟩ := hrel
      go_wp2
      go_ret
      exact ⟨rfl, HB5.out⟩
  · have n0 : (((L.length : Nat) : Int) == 0) = false := by rw [beq_eq_false_iff_ne]; omega
    have np : (0 : Int) < ((L.length : Nat) : Int) := by omega
    have hlp : 0 < L.length := by omega
    clear HEM HCW HCR
    go_wp2_with (first | (go_at_call 15; fail))
    refine (wawake w3).mono ?_
    rintro e w4 ⟨rfl, hb4⟩
    have HB4 := Lib.hid (HB3.out.trans (below_le hb4 HB3.out.size))
    have HT4 := Lib.hid (HT3.out.below hb4)
    clear hb4 HB3 HT3
    go_wp2_with (first | (go_at_call 21; fail))
    refine (HCU.out w4).mono ?_
    rintro e w5 ⟨v5, rfl, hv5, hb5⟩
    have HB5 := Lib.hid (HB4.out.trans (below_le hb5 HB4.out.size))
    have HT5 := Lib.hid (HT4.out.below hb5)
    have ht5 := TxV.of_row hv5 (by omega)
    have HV5 := Lib.hid ht5
    obtain ⟨x5, c5, rfl, hc5, _, _⟩ := ht5.old
    clear hb5 HB4 hv5 HT4 ht5 HCU n3
    have hn0 : L.length ≠ 0 := hl0
    go_wp2
    go_loopw [5, 6] (fun bv iv wr => ∃ k : Nat, iv = .int .i64 (k : Int) ∧ k ≤ L.length ∧ bv = .bool (lng L C k) ∧ Hid (Below w5.heap.size w5 wr)) (fun _ iv _ => L.length - (intOf iv).toNat)
    case atStart => exact ⟨0, rfl, Nat.zero_le _, by rw [HL0.out, decide_eq_true hlp], Lib.hid (Below.refl _ _)⟩
    case round =>
      obtain ⟨k, rfl, hk, rfl, HB⟩ := hrel
      have i1 : (0 : Int) ≤ (k : Int) := by omega
      by_cases hlt : k < L.length
      · have i2 : (k : Int) < (L.length : Int) := by omega
        obtain ⟨x1', c1', he, _, _, hget⟩ := HT5.out.old
        obtain ⟨rfl, rfl⟩ : x1 = x1' ∧ c1 = c1' := by simpa using he
        obtain ⟨g1, o1, rfl, hg1, hcell⟩ := hget (List.ne_nil_of_length_pos hlp)
        have ce : wr.cell? ⟨g1, o1 + k, none⟩ = some (.string (tx (L.getD k []))) := (HB.out.cell (p := ⟨g1, o1 + k, none⟩) hg1).trans (hcell k hlt)
        have hmem : L.getD k [] ∈ L := by rw [List.getD_eq_getElem?_getD, List.getElem?_eq_getElem hlt]; exact List.getElem_mem _
        have hmem0 : L.getD 0 [] ∈ L := by rw [List.getD_eq_getElem?_getD, List.getElem?_eq_getElem hlp]; exact List.getElem_mem _
        have HC0 := Lib.hid (And.intro hg1 (hcell 0 hlp))
        have HCK := Lib.hid (fun W => HCL.out _ hmem W)
        have HCZ := Lib.hid (fun W => HCL.out _ hmem0 W)
        have hm4 := HSL.out _ hmem
        have hz4 := HSL.out _ hmem0
        obtain ⟨hd1, hd2⟩ := HHD.out k hlt
        have HLK := Lib.hid (HLS.out k)
        have HZL : Hid (lng L C k = true → C.length < (clS (L.getD k [])).length → C.length < (clS (L.getD 0 [])).length) := Lib.hid (fun h1 h2 => by
          rcases Nat.eq_zero_or_pos k with q | q
          · subst q; exact h2
          · unfold lng at h1
            exact ((of_decide_eq_true h1).2 0 q).1)
        generalize tx (L.getD k []) = TK at ce HCK
        generalize clS (L.getD k []) = M at HCK hm4 hd1 hd2 HLK HZL
        generalize tx (L.getD 0 []) = TZ at HC0 HCZ
        generalize clS (L.getD 0 []) = Z at HCZ hz4 HLK HZL
        have HHQ := Lib.hid hd2
        clear he hget hcell hmem hmem0 hg1 hd2
        go_wp2_with (first | (go_at_call 28; fail))
        refine (HCK.out wr).mono ?_
        rintro e w6 ⟨v6, rfl, h6, hb6⟩
        have HB6 := Lib.hid (HB.out.trans (below_le hb6 HB.out.size))
        have HV6 := Lib.hid h6
        obtain ⟨x6, c6, rfl, hc6, _, _⟩ := h6.old
        have j1 : ¬ (M.length : Int) < (C.length : Int) := by omega
        have HSA := Lib.hid (rsame _ _ _ _ w6 (TxV.head h6 C.length hd1) (HV5.out.below HB6.out))
        rw [HHQ.out, decide_eq_true rfl] at HSA
        clear h6 hb6 HB ce HCK
        go_wp2_with (first | (go_at_call 12; fail))
        refine HSA.out.mono ?_
        rintro e w7 ⟨rfl, hb7⟩
        have HB7 := Lib.hid (HB6.out.trans (below_le hb7 HB6.out.size))
        have HV7 := Lib.hid (HV6.out.below hb7)
        clear hb7 HB6 HV6 HSA
        have HBD : Hid (∀ nq, Below w5.heap.size w5 (w7.drewN nq)) := Lib.hid (fun nq => below_drewN HB7.out nq)
        cases hlg : lng L C k with
        | false =>
          have HLN : Hid (lng L C (k + 1) = false) := Lib.hid (by rw [HLK.out, hlg]; rfl)
          clear hlg HLK HZL
          go_wp2
          go_quiet (fail)
          go_wp2
          go_roundw
          case rel => exact ⟨k + 1, by go_num, by omega, by rw [HLN.out], HBD.out _⟩
          case measure => simp [intOf]; omega
        | true =>
          by_cases hlm : C.length < M.length
          · have hzl := HZL.out hlg hlm
            obtain ⟨y6, d6, he6, _, _, hget6⟩ := HV7.out.old
            obtain ⟨rfl, rfl⟩ : x6 = y6 ∧ c6 = d6 := by simpa using he6
            obtain ⟨g6, o6, rfl, hg6, hcell6⟩ := hget6 (List.ne_nil_of_length_pos (by omega))
            have k1 := hcell6 C.length hlm
            have k2 : w7.cell? ⟨g1, o1, none⟩ = some (.string TZ) := (HB7.out.cell (p := ⟨g1, o1, none⟩) HC0.out.1).trans (by have := HC0.out.2; simpa using this)
            have hg1s := Nat.lt_of_lt_of_le HC0.out.1 HB7.out.size
            have HLN : Hid (lng L C (k + 1) = decide (M.getD C.length [] = Z.getD C.length [])) := Lib.hid (by
              rw [HLK.out, hlg, Bool.true_and]
              exact decide_eq_decide.2 ⟨fun q => q.2, fun q => ⟨hlm, q⟩⟩)
            have HRD : Hid (∀ W, Below w7.heap.size w7 W → Below w7.heap.size w7 W ∧ W.cell? ⟨g6, o6 + C.length, none⟩ = some (.string (tx (M.getD C.length []))) ∧ W.cell? ⟨g1, o1, none⟩ = some (.string TZ)) := Lib.hid (fun W hW => ⟨hW, (hW.cell (p := ⟨g6, o6 + C.length, none⟩) hg6).trans k1, (hW.cell (p := ⟨g1, o1, none⟩) hg1s).trans k2⟩)
            have HKC : Hid (∀ W, Below w7.heap.size w7 W → Calls Tryz.prog 28 #[.string TZ] W fun e w' => ∃ g o c, e = .returned (.slice (some ⟨g, o, none⟩) Z.length c) ∧ Z.length ≤ c ∧ w'.cell? ⟨g, o + C.length, none⟩ = some (.string (tx (Z.getD C.length []))) ∧ Below w7.heap.size w7 w') := Lib.hid (fun W hW => (HCZ.out W).mono fun e w' ⟨v, he, hv, hb⟩ => by
              obtain ⟨y, d, rfl, hd, _, hh⟩ := hv.old
              obtain ⟨g, o, rfl, _, hc⟩ := hh (List.ne_nil_of_length_pos (by omega))
              exact ⟨g, o, d, he, hd, hc C.length hzl, hW.trans (below_le hb hW.size)⟩)
            have hBE : ((tx (M.getD C.length [])).toList == (tx (Z.getD C.length [])).toList) = decide (M.getD C.length [] = Z.getD C.length []) := by
              rw [beq_bytes]
              refine decide_eq_decide.2 ⟨fun e => by have := congrArg (·.data.toList) e; simpa [tx] using this, fun e => by rw [e]⟩
            generalize decide (M.getD C.length [] = Z.getD C.length []) = bb at HLN hBE
            generalize tx (M.getD C.length []) = U1 at HRD hBE k1
            generalize tx (Z.getD C.length []) = U2 at HKC hBE
            have d1 : decide (C.length < M.length) = true := decide_eq_true hlm
            have d2 : decide ((C.length : Int) < (M.length : Int)) = true := decide_eq_true (by omega)
            have d3 : (C.length : Int) < (Z.length : Int) := by omega
            have d4 : (C.length : Int) < (M.length : Int) := by omega
            clear hlg HLK HZL he6 hget6 hcell6 HCZ HC0 k1 k2
            go_wp2
            have HS0 := Lib.hid (HRD.out _ (Below.refl _ _).drew)
            refine wp_region_held (S := (fun W => Below w7.heap.size w7 W ∧ W.cell? ⟨g6, o6 + C.length, none⟩ = some (.string U1) ∧ W.cell? ⟨g1, o1, none⟩ = some (.string TZ))) (by kernel_rfl) ?_
            change wpAnyH _ _ _ _ _ _ _ _ (World.drew _)
            refine wpAnyH_take (i := 0) (v := _) rfl (by kernel_rfl) (by kernel_rfl) (by kernel_rfl) (fun _ _ _ h => h) (Or.inl ⟨by rfl, by intro w hSw; (try dsimp only at hSw); go_simp; try (with_reducible rfl)⟩) HS0.out ?_
            try simp only [Act.put, List.setIfInBounds_toArray, List.set_cons_zero, List.set_cons_succ, List.getElem_toArray, List.getElem_cons_zero]
            refine wpAnyH_take (i := 1) (v := _) rfl (by kernel_rfl) (by kernel_rfl) (by kernel_rfl) (fun _ _ _ h => h) (Or.inl ⟨by rfl, by intro w hSw; (try dsimp only at hSw); go_simp; try (with_reducible rfl)⟩) HS0.out ?_
            try simp only [Act.put, List.setIfInBounds_toArray, List.set_cons_zero, List.set_cons_succ, List.getElem_toArray, List.getElem_cons_succ, List.getElem_cons_zero]
            refine wpAnyH_take (i := 2) (v := _) rfl (by kernel_rfl) (by kernel_rfl) (by kernel_rfl) (fun _ _ _ h => h) (Or.inl ⟨by rfl, by intro w hSw; (try dsimp only at hSw); go_simp; try (with_reducible rfl)⟩) HS0.out ?_
            try simp only [Act.put, List.setIfInBounds_toArray, List.set_cons_zero, List.set_cons_succ, List.getElem_toArray, List.getElem_cons_succ, List.getElem_cons_zero]
            refine wpAnyH_take (i := 3) (v := _) rfl (by kernel_rfl) (by kernel_rfl) (by kernel_rfl) (fun _ _ _ h => h) (Or.inl ⟨by rfl, by intro w hSw; (try dsimp only at hSw); go_simp; try (with_reducible rfl)⟩) HS0.out ?_
            try simp only [Act.put, List.setIfInBounds_toArray, List.set_cons_zero, List.set_cons_succ, List.getElem_toArray, List.getElem_cons_succ, List.getElem_cons_zero]
            refine wpAnyH_take (i := 4) (v := _) rfl (by kernel_rfl) (by kernel_rfl) (by kernel_rfl) (fun _ _ _ h => h) (Or.inl ⟨by rfl, by intro w hSw; (try dsimp only at hSw); go_simp; try (with_reducible rfl)⟩) HS0.out ?_
            try simp only [Act.put, List.setIfInBounds_toArray, List.set_cons_zero, List.set_cons_succ, List.getElem_toArray, List.getElem_cons_succ, List.getElem_cons_zero]
            refine wpAnyH_take (i := 5) (v := _) rfl (by kernel_rfl) (by kernel_rfl) (by kernel_rfl) (fun _ _ _ h => h) (Or.inl ⟨by rfl, by intro w hSw; (try dsimp only at hSw); go_simp; try (with_reducible rfl)⟩) HS0.out ?_
            try simp only [Act.put, List.setIfInBounds_toArray, List.set_cons_zero, List.set_cons_succ, List.getElem_toArray, List.getElem_cons_succ, List.getElem_cons_zero]
            refine wpAnyH_take (i := 6) (v := _) rfl (by kernel_rfl) (by kernel_rfl) (by kernel_rfl) (fun _ _ _ h => h) (Or.inl ⟨by rfl, by intro w hSw; (try dsimp only at hSw); go_simp; try (with_reducible rfl)⟩) HS0.out ?_
            try simp only [Act.put, List.setIfInBounds_toArray, List.set_cons_zero, List.set_cons_succ, List.getElem_toArray, List.getElem_cons_succ, List.getElem_cons_zero]
            refine wpAnyH_take (i := 7) (v := _) rfl (by kernel_rfl) (by kernel_rfl) (by kernel_rfl) (fun _ _ _ h => h) (Or.inl ⟨by rfl, by intro w hSw; (try dsimp only at hSw); go_simp; try (with_reducible rfl)⟩) HS0.out ?_
            try simp only [Act.put, List.setIfInBounds_toArray, List.set_cons_zero, List.set_cons_succ, List.getElem_toArray, List.getElem_cons_succ, List.getElem_cons_zero]
            refine wpAnyH_take (i := 8) (v := _) rfl (by kernel_rfl) (by kernel_rfl) (by kernel_rfl) (fun _ _ _ h => h) (Or.inl ⟨by rfl, by intro w hSw; (try dsimp only at hSw); go_simp; try (with_reducible rfl)⟩) HS0.out ?_
            try simp only [Act.put, List.setIfInBounds_toArray, List.set_cons_zero, List.set_cons_succ, List.getElem_toArray, List.getElem_cons_succ, List.getElem_cons_zero]
            refine wpAnyH_take (i := 9) (v := _) rfl (by kernel_rfl) (by kernel_rfl) (by kernel_rfl) (fun _ _ _ h => h) (Or.inl ⟨by rfl, by intro w hSw; (try dsimp only at hSw); go_simp; try (with_reducible rfl)⟩) HS0.out ?_
            try simp only [Act.put, List.setIfInBounds_toArray, List.set_cons_zero, List.set_cons_succ, List.getElem_toArray, List.getElem_cons_succ, List.getElem_cons_zero]
            refine wpAnyH_take (i := 10) (v := _) rfl (by kernel_rfl) (by kernel_rfl) (by kernel_rfl) (fun _ _ _ h => h) (Or.inl ⟨by rfl, by intro w hSw; (try dsimp only at hSw); go_simp; try (with_reducible rfl)⟩) HS0.out ?_
            try simp only [Act.put, List.setIfInBounds_toArray, List.set_cons_zero, List.set_cons_succ, List.getElem_toArray, List.getElem_cons_succ, List.getElem_cons_zero]
            refine wpAnyH_take (i := 11) (v := _) rfl (by kernel_rfl) (by kernel_rfl) (by kernel_rfl) (fun _ _ _ h => h) (Or.inl ⟨by rfl, by intro w hSw; (try dsimp only at hSw); go_simp; try (with_reducible rfl)⟩) HS0.out ?_
            try simp only [Act.put, List.setIfInBounds_toArray, List.set_cons_zero, List.set_cons_succ, List.getElem_toArray, List.getElem_cons_succ, List.getElem_cons_zero]
            refine wpAnyH_take (i := 12) (v := _) rfl (by kernel_rfl) (by kernel_rfl) (by kernel_rfl) (fun _ _ _ h => h) (Or.inl ⟨by rfl, by intro w hSw; (try dsimp only at hSw); go_simp; try (with_reducible rfl)⟩) HS0.out ?_
            try simp only [Act.put, List.setIfInBounds_toArray, List.set_cons_zero, List.set_cons_succ, List.getElem_toArray, List.getElem_cons_succ, List.getElem_cons_zero]
            refine wpAnyH_take (i := 13) (v := _) rfl (by kernel_rfl) (by kernel_rfl) (by kernel_rfl) (fun _ _ _ h => h) (Or.inl ⟨by rfl, by intro w hSw; (try dsimp only at hSw); go_simp; try (with_reducible rfl)⟩) HS0.out ?_
            try simp only [Act.put, List.setIfInBounds_toArray, List.set_cons_zero, List.set_cons_succ, List.getElem_toArray, List.getElem_cons_succ, List.getElem_cons_zero]
            refine wpAnyH_take (i := 14) (v := _) rfl (by kernel_rfl) (by kernel_rfl) (by kernel_rfl) (fun _ _ _ h => h) (Or.inl ⟨by rfl, by intro w hSw; (try dsimp only at hSw); go_simp; try (with_reducible rfl)⟩) HS0.out ?_
            try simp only [Act.put, List.setIfInBounds_toArray, List.set_cons_zero, List.set_cons_succ, List.getElem_toArray, List.getElem_cons_succ, List.getElem_cons_zero]
            refine wpAnyH_take (i := 15) (v := _) rfl (by kernel_rfl) (by kernel_rfl) (by kernel_rfl) (fun _ _ _ h => h) (Or.inl ⟨by rfl, by intro w hSw; (try dsimp only at hSw); go_simp; try (with_reducible rfl)⟩) HS0.out ?_
            try simp only [Act.put, List.setIfInBounds_toArray, List.set_cons_zero, List.set_cons_succ, List.getElem_toArray, List.getElem_cons_succ, List.getElem_cons_zero]
            refine wpAnyH_take (i := 16) (v := _) rfl (by kernel_rfl) (by kernel_rfl) (by kernel_rfl) (fun _ _ _ h => h) (Or.inl ⟨by rfl, by intro w hSw; (try dsimp only at hSw); go_simp; try (with_reducible rfl)⟩) HS0.out ?_
            try simp only [Act.put, List.setIfInBounds_toArray, List.set_cons_zero, List.set_cons_succ, List.getElem_toArray, List.getElem_cons_succ, List.getElem_cons_zero]
            refine wpAnyH_take (i := 18) (v := _) rfl (by kernel_rfl) (by kernel_rfl) (by kernel_rfl) (fun _ _ _ h => h) (Or.inl ⟨by rfl, by intro w hSw; (try dsimp only at hSw); go_simp; try (with_reducible rfl)⟩) HS0.out ?_
            try simp only [Act.put, List.setIfInBounds_toArray, List.set_cons_zero, List.set_cons_succ, List.getElem_toArray, List.getElem_cons_succ, List.getElem_cons_zero]
            refine wpAnyH_take (i := 19) (v := _) rfl (by kernel_rfl) (by kernel_rfl) (by kernel_rfl) (fun _ _ _ h => h) (Or.inl ⟨by rfl, by intro w hSw; (try dsimp only at hSw); go_simp; try (with_reducible rfl)⟩) HS0.out ?_
            try simp only [Act.put, List.setIfInBounds_toArray, List.set_cons_zero, List.set_cons_succ, List.getElem_toArray, List.getElem_cons_succ, List.getElem_cons_zero]
            refine wpAnyH_ready (rs := [17]) (by kernel_rfl) (by simp) ?_
            refine AllReadyH.cons rfl (fun K hK => ?_) AllReadyH.nil
            go_simp
            go_wp2_with (first | (go_at_call 28; fail))
            refine (HKC.out _ (Below.refl _ _).drew).mono ?_
            rintro e y1 ⟨gz, oz, cz, rfl, hcz, kz, hb⟩
            have HQ1 := Lib.hid hb
            have HS1 := Lib.hid (HRD.out y1 hb)
            clear hb
            refine hK.out _ _ HS1.out (fun _ => ?_)
            clear hK K
            try simp only [Act.put, List.setIfInBounds_toArray, List.set_cons_zero, List.set_cons_succ, List.getElem_toArray, List.getElem_cons_succ, List.getElem_cons_zero]
            refine wpAnyH_take (i := 20) (v := _) rfl (by kernel_rfl) (by kernel_rfl) (by kernel_rfl) (fun _ _ _ h => h) (Or.inl ⟨by rfl, by intro w hSw; (try dsimp only at hSw); go_simp; try (with_reducible rfl)⟩) HS1.out ?_
            try simp only [Act.put, List.setIfInBounds_toArray, List.set_cons_zero, List.set_cons_succ, List.getElem_toArray, List.getElem_cons_succ, List.getElem_cons_zero]
            refine wpAnyH_ready (rs := [21]) (by kernel_rfl) (by simp) ?_
            refine AllReadyH.cons rfl (fun K hK => ?_) AllReadyH.nil
            go_simp
            refine hK.out _ _ HS1.out (fun _ => ?_)
            clear hK K
            try simp only [Act.put, List.setIfInBounds_toArray, List.set_cons_zero, List.set_cons_succ, List.getElem_toArray, List.getElem_cons_succ, List.getElem_cons_zero]
            refine wpAnyH_take (i := 22) (v := _) rfl (by kernel_rfl) (by kernel_rfl) (by kernel_rfl) (fun _ _ _ h => h) (Or.inl ⟨by rfl, by intro w hSw; (try dsimp only at hSw); go_simp; try (with_reducible rfl)⟩) HS1.out ?_
            try simp only [Act.put, List.setIfInBounds_toArray, List.set_cons_zero, List.set_cons_succ, List.getElem_toArray, List.getElem_cons_succ, List.getElem_cons_zero]
            refine wpAnyH_take (i := 23) (v := _) rfl (by kernel_rfl) (by kernel_rfl) (by kernel_rfl) (fun _ _ _ h => h) (Or.inl ⟨by rfl, by intro w hSw; (try dsimp only at hSw); go_simp; try (with_reducible rfl)⟩) HS1.out ?_
            try simp only [Act.put, List.setIfInBounds_toArray, List.set_cons_zero, List.set_cons_succ, List.getElem_toArray, List.getElem_cons_succ, List.getElem_cons_zero]
            refine wpAnyH_take (i := 24) (v := _) rfl (by kernel_rfl) (by kernel_rfl) (by kernel_rfl) (fun _ _ _ h => h) (Or.inl ⟨by rfl, by intro w hSw; (try dsimp only at hSw); go_simp; try (with_reducible rfl)⟩) HS1.out ?_
            try simp only [Act.put, List.setIfInBounds_toArray, List.set_cons_zero, List.set_cons_succ, List.getElem_toArray, List.getElem_cons_succ, List.getElem_cons_zero]
            refine wpAnyH_done (by kernel_rfl) ?_ _
            have HBY := Lib.hid (HB7.out.trans (below_le HQ1.out HB7.out.size))
            go_wp2
            go_roundw
            case rel => exact ⟨k + 1, by go_num, by omega, by rw [HLN.out], HBY⟩
            case measure => simp [intOf]; omega
          · have HLN : Hid (lng L C (k + 1) = false) := Lib.hid (by rw [HLK.out, hlg, decide_eq_false (fun q => hlm q.1)]; rfl)
            have d1 : decide (C.length < M.length) = false := decide_eq_false hlm
            have d2 : decide ((C.length : Int) < (M.length : Int)) = false := decide_eq_false (by omega)
            clear hlg HLK HZL
            go_wp2
            go_quiet (fail)
            go_wp2
            go_roundw
            case rel => exact ⟨k + 1, by go_num, by omega, by rw [HLN.out], HBD.out _⟩
            case measure => simp [intOf]; omega
      · obtain rfl : k = L.length := by omega
        have i2 : ¬ (L.length : Int) < (L.length : Int) := by omega
        rw [HLE.out]
        go_wp2
        go_ret
        exact ⟨rfl, HB5.out.trans (below_le HB.out HB5.out.size)⟩
end Go.Proofs.YtdehjofmangmbaaGreat
