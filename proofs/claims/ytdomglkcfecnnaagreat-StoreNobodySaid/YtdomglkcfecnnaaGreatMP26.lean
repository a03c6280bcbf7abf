/- Own texts, merged: D4, D5, N2. -/
import Derived.BigQuiet
import Derived.Deep.QuietTactic
import Derived.Test.YtdomglkcfecnnaaGreatH0
import Derived.Test.YtdomglkcfecnnaaGreatMP18
import Derived.Test.YtdomglkcfecnnaaGreatMP19
import Derived.Test.YtdomglkcfecnnaaGreatShelfB
/- Walks: desc: options: rows of texts, their copy put in order; twins stand side by side. -/
namespace Go.Proofs.YtdomglkcfecnnaaGreat
open Go.RowKit Go.Shelf Go.Lib
/-- A row of texts that may be read. -/
def TxV (W : World) (v : Value) (L : List Bs) : Prop := L.length ≤ 1000000 ∧ (v = .slice none 0 0 ∧ L = [] ∨ ∃ g o c, v = .slice (some ⟨g, o, none⟩) L.length c ∧ L.length ≤ c ∧ g < W.heap.size ∧ ∀ i, i < L.length → W.cell? ⟨g, o + i, none⟩ = some (.string (tx (L.getD i []))))
theorem TxV.old {W : World} {v : Value} {L : List Bs} (h : TxV W v L) : ∃ x c, v = .slice x L.length c ∧ L.length ≤ c ∧ L.length ≤ 1000000 ∧ (L ≠ [] → ∃ g o, x = some ⟨g, o, none⟩ ∧ g < W.heap.size ∧ ∀ i, i < L.length → W.cell? ⟨g, o + i, none⟩ = some (.string (tx (L.getD i [])))) := by
  obtain ⟨h1, ⟨rfl, rfl⟩ | ⟨g, o, c, rfl, h2, h3, h4⟩⟩ := h
  · exact ⟨none, 0, rfl, Nat.le_refl _, by simp, fun h => absurd rfl h⟩
  · exact ⟨_, c, rfl, h2, h1, fun _ => ⟨g, o, rfl, h3, h4⟩⟩
theorem TxV.below {W W' : World} {v : Value} {L : List Bs} (h : TxV W v L) (hB : Below W.heap.size W W') : TxV W' v L := by
  obtain ⟨h1, ⟨rfl, rfl⟩ | ⟨g, o, c, rfl, h2, h3, h4⟩⟩ := h
  · exact ⟨h1, .inl ⟨rfl, rfl⟩⟩
  · exact ⟨h1, .inr ⟨g, o, c, rfl, h2, Nat.lt_of_lt_of_le h3 hB.size, fun i hi => (hB.cell (p := ⟨g, o + i, none⟩) h3).trans (h4 i hi)⟩⟩
theorem TxV.nil (W : World) : TxV W (.slice none 0 0) [] := ⟨by simp, .inl ⟨rfl, rfl⟩⟩
theorem TxV.of_row {W : World} {b : Nat} {v : Value} {L : List Bs} (h : W.ownsRow b 9 1 v L.length (strs L)) (hL : L.length ≤ 1000000) : TxV W v L := by
  have hcl := fun g (hg : v.ownBlock = some g) => h.cells hg
  rcases h.2 with ⟨hv, h0⟩ | ⟨g, cap, cur, hv, _, hg, hnc, _⟩
  · exact ⟨hL, .inl ⟨hv, List.length_eq_zero_iff.1 h0⟩⟩
  · subst hv
    refine ⟨hL, .inr ⟨g, 0, cap, rfl, hnc, (Array.getElem?_eq_some_iff.1 hg).1, fun i hi => ?_⟩⟩
    rw [Nat.zero_add, h.cellAt i (by omega), strs, List.getElem?_map, List.getElem?_eq_getElem hi, List.getD_eq_getElem?_getD, List.getElem?_eq_getElem hi]
    rfl
theorem wclone {W : World} {x : Option Addr} {c : Nat} {L : List Bs} (h : TxV W (.slice x L.length c) L) (hL : L.length ≤ 1000) : Calls Tryz.prog 71 #[.slice x L.length c] W fun e w' => ∃ y cap, e = .returned (.slice y L.length cap) ∧ w'.ownsRow W.heap.size 9 1 (.slice y L.length cap) L.length (strs L) ∧ Below W.heap.size W w' := by
  by_cases h0 : L = []
  · subst h0
    cases x with
    | none =>
      refine (Tryz.slices_Clone_string_nil 0 c W).mono ?_
      rintro e w' ⟨rfl, rfl⟩
      exact ⟨none, 0, rfl, World.ownsRow_nil _ _ _ _, Below.refl _ _⟩
    | some a =>
      refine (Tryz.slices_Clone_string_zero a c W).mono ?_
      rintro e w' ⟨v, rfl, hv, _, hb⟩
      obtain ⟨y, cap, rfl⟩ := ownsRow_is hv
      exact ⟨y, cap, rfl, hv, hb⟩
  · obtain ⟨x', c', he, hc, _, hg⟩ := h.old
    obtain ⟨rfl, rfl⟩ : x = x' ∧ c = c' := by simpa using he
    obtain ⟨g, o, rfl, hgl, hget⟩ := hg h0
    refine (Tryz.slices_Clone_string g o L.length c (L.map tx) W (by simp) (by omega) (fun j hj => ?_)).mono ?_
    · have hj' : j < L.length := by simpa using hj
      rw [hget j hj', List.getD_eq_getElem?_getD, List.getD_eq_getElem?_getD, List.getElem?_map, List.getElem?_eq_getElem hj']
      rfl
    · rintro e w' ⟨v, rfl, hv, _, hb⟩
      obtain ⟨y, cap, rfl⟩ := ownsRow_is hv
      refine ⟨y, cap, rfl, ?_, hb⟩
      have e1 : ((L.map tx).take L.length).map Value.string = strs L := by simp [strs, List.take_of_length_le]
      rw [e1] at hv
      exact hv
/-- A row of texts that was put in order. -/
theorem sorted_below {W wc : World} {B q n : Nat} {T : Array Bs} {os : Array Obj} (hb : Below B W wc) (hB : B ≤ W.heap.size) (hq : B ≤ q) : Below B W (Sort.grow (Sort.putRow encStr (Sort.ahead wc n) q 0 T) os) := by
  refine hb.trans ⟨rfl, rfl, rfl, by simp, fun k hk => ?_⟩
  rw [Sort.heap_grow_old _ _ (by have := hb.size; simp; omega)]
  simp only [Sort.putRow, Sort.mapBlock, Sort.heap_ahead, Array.getElem?_modify]
  rw [if_neg (by omega)]
theorem sorted_cells {wc : World} {q n : Nat} {L T : List Bs} {os : Array Obj} (hH : Sort.Holds encStr wc q 0 L.toArray) (hq : q < wc.heap.size) (hl : T.length = L.length) (j : Nat) (hj : j < T.length) :
    (Sort.grow (Sort.putRow encStr (Sort.ahead wc n) q 0 T.toArray) os).cell? ⟨q, j, none⟩ = some (.string (tx (T.getD j []))) := by
  rw [Sort.cell?_grow _ _ _ (by simpa using hq)]
  have := Sort.cell?_putRow encStr (Sort.ahead wc n) q 0 L.toArray T.toArray hH (by simpa using hl) j (by simpa using hj)
  rw [Nat.zero_add] at this
  rw [this, List.getD_eq_getElem?_getD, List.getElem?_eq_getElem hj]
  rw [getElem!_pos _ _ (by simpa using hj)]
  rfl
theorem holds_of_row {W : World} {base q cap : Nat} {L : List Bs} (h : W.ownsRow base 9 1 (.slice (some ⟨q, 0, none⟩) L.length cap) L.length (strs L)) : Sort.Holds encStr W q 0 L.toArray := by
  have h2 := h.2
  rcases h2 with ⟨hv, h0⟩ | ⟨g, cap', cur, hv, _, hg, hnc, _, hcs, _⟩
  · simp at hv
  · obtain ⟨rfl, rfl⟩ : q = g ∧ cap = cap' := by simpa using hv
    intro j hj
    have hj' : j < L.length := by simpa using hj
    have h3 := h.cellAt j (by omega)
    rw [Nat.zero_add]
    refine ⟨?_, by simp [World.frozen?, hg]⟩
    rw [getElem!_pos L.toArray j hj, h3, strs, List.getElem?_map, List.getElem?_eq_getElem hj']
    rfl
theorem wsort {W : World} {base cap : Nat} {y : Option Addr} {D : List Bs} (h : W.ownsRow base 9 1 (.slice y D.length cap) D.length (strs D)) (hD : D.length ≤ 1000) (hb0 : base ≤ W.heap.size) :
    Calls Tryz.prog 72 #[.slice y D.length cap] W fun e w' => e = .returned (.tuple #[]) ∧ Below base W w' ∧ ∀ j, j < D.length → ∃ q, y = some ⟨q, 0, none⟩ ∧ D.length ≤ cap ∧ w'.cell? ⟨q, j, none⟩ = some (.string (tx ((D.mergeSort fun x y => decide (x ≤ y)).getD j []))) := by
  by_cases h0 : D = []
  · subst h0
    refine (Tryz.slices_Sort_string_none y cap W).mono ?_
    rintro e w' ⟨rfl, rfl⟩
    exact ⟨rfl, Below.refl _ _, fun j hj => by simp at hj⟩
  · have hp : 0 < D.length := List.length_pos_iff.2 h0
    have hh := h
    rcases h.2 with ⟨hv, h1⟩ | ⟨g, cap', cur, hv, hge, hg, hnc, _⟩
    · omega
    · obtain ⟨rfl, rfl⟩ : y = some ⟨g, 0, none⟩ ∧ cap = cap' := by simpa using hv
      have hlt : g < W.heap.size := (Array.getElem?_eq_some_iff.1 hg).1
      have hH := holds_of_row hh
      refine (Tryz.slices_Sort_string g 0 cap D W hH hlt (by omega)).mono ?_
      rintro e w' ⟨rfl, n, os, rfl⟩
      refine ⟨rfl, sorted_below (Below.refl _ _) hb0 hge, fun j hj => ⟨g, rfl, hnc, ?_⟩⟩
      exact sorted_cells hH hlt (List.mergeSort_perm D _).length_eq j (by rw [(List.mergeSort_perm D _).length_eq]; exact hj)
/-! ### Plain: sorted texts with no twins side by side have none. -/
def lexB (a b : Bs) : Bool := decide (a ≤ b)
def srtS (L : List Bs) : List Bs := L.mergeSort fun x y => decide (x ≤ y)
theorem srt_len (L : List Bs) : (srtS L).length = L.length := (List.mergeSort_perm L _).length_eq
theorem srt_sorted (L : List Bs) : (srtS L).Pairwise (fun a b => a ≤ b) := by
  have h := List.pairwise_mergeSort (le := fun x y : Bs => decide (x ≤ y)) (by
    intro a b c h1 h2
    simp only [decide_eq_true_eq] at h1 h2 ⊢
    exact List.le_trans h1 h2) (by
    intro a b
    simp only [Bool.or_eq_true, decide_eq_true_eq]
    exact List.le_total a b) L
  exact h.imp (fun h => by simpa using h)
theorem srt_nodup (L : List Bs) : (srtS L).Nodup ↔ L.Nodup := (List.mergeSort_perm L _).nodup_iff
theorem nodup_adj : ∀ (S : List Bs), S.Pairwise (fun a b => a ≤ b) → (∀ i, 1 ≤ i → i < S.length → S.getD i [] ≠ S.getD (i - 1) []) → S.Nodup
  | [], _, _ => List.nodup_nil
  | [a], _, _ => by simp
  | a :: b :: r, hs, h => by
    have hs2 := List.pairwise_cons.1 hs
    have ih := nodup_adj (b :: r) hs2.2 (fun i hi hl => by
      have := h (i + 1) (by omega) (by simpa using hl)
      obtain ⟨j, rfl⟩ : ∃ j, i = j + 1 := ⟨i - 1, by omega⟩
      simpa using this)
    have hab : b ≠ a := by simpa using h 1 (by omega) (by simp)
    rw [List.nodup_cons]
    refine ⟨fun hm => ?_, ih⟩
    have h1 := hs2.1 b (by simp)
    rcases List.mem_cons.1 hm with e | e
    · exact hab e.symm
    · have h2 := (List.pairwise_cons.1 hs2.2).1 a e
      exact hab (List.le_antisymm h2 h1)
theorem adj_nodup {S : List Bs} (h : S.Nodup) {i : Nat} (h1 : 1 ≤ i) (hi : i < S.length) : S.getD i [] ≠ S.getD (i - 1) [] := by
  rw [List.getD_eq_getElem?_getD, List.getD_eq_getElem?_getD, List.getElem?_eq_getElem hi, List.getElem?_eq_getElem (by omega)]
  simp only [Option.getD_some]
  intro e
  exact List.pairwise_iff_getElem.1 h (i - 1) i (by omega) hi (by omega) e.symm
theorem opts_len {L : List Bs} (h : decide (1 ≤ L.length ∧ L.length ≤ 256) = false) : optsP L = false := by unfold optsP; rw [h]; rfl
theorem opts_label {L : List Bs} {i : Nat} (hi : i < L.length) (h : labelP (L.getD i []) = false) : optsP L = false := by
  unfold optsP
  have : L.all labelP = false := by
    rw [List.all_eq_false]
    refine ⟨L[i], List.getElem_mem hi, ?_⟩
    rw [List.getD_eq_getElem?_getD, List.getElem?_eq_getElem hi] at h
    simp only [Option.getD_some] at h
    rw [h]; simp
  rw [this]; simp
theorem opts_twin {L : List Bs} {i : Nat} (h1 : 1 ≤ i) (hi : i < L.length) (h : (srtS L).getD i [] = (srtS L).getD (i - 1) []) : optsP L = false := by
  unfold optsP
  have : decide L.Nodup = false := by
    rw [decide_eq_false_iff_not]
    intro hn
    exact adj_nodup ((srt_nodup L).2 hn) h1 (by rw [srt_len]; exact hi) h
  rw [this]; simp
theorem opts_end {L : List Bs} (h0 : decide (1 ≤ L.length ∧ L.length ≤ 256) = true) (hl : ∀ i, i < L.length → labelP (L.getD i []) = true) (ht : ∀ i, 1 ≤ i → i < L.length → (srtS L).getD i [] ≠ (srtS L).getD (i - 1) []) : optsP L = true := by
  unfold optsP
  rw [h0, Bool.true_and, Bool.and_eq_true, decide_eq_true_eq, List.all_eq_true]
  refine ⟨fun x hx => ?_, (srt_nodup L).1 (nodup_adj _ (srt_sorted L) (fun i h1 h2 => ht i h1 (by rw [srt_len] at h2; exact h2)))⟩
  obtain ⟨i, hi, rfl⟩ := List.getElem_of_mem hx
  have := hl i hi
  rw [List.getD_eq_getElem?_getD, List.getElem?_eq_getElem hi] at this
  exact this
end Go.Proofs.YtdomglkcfecnnaaGreat
/- Walk: desc: options. -/
namespace Go.Proofs.YtdomglkcfecnnaaGreat
open Go.RowKit Go.Shelf
set_option maxRecDepth 100000 in
set_option maxHeartbeats 8000000 in
theorem doptions (L : List Bs) (hL : L.length ≤ 1000) (hs : ∀ i, i < L.length → (L.getD i []).length ≤ 900000) (x : Option Addr) (c : Nat) (w : World) (h : TxV w (.slice x L.length c) L) :
    Calls Tryz.prog 59 #[.slice x L.length c] w fun e w' => e = .returned (.bool (optsP L)) ∧ Below w.heap.size w w' := by
  have HV := Lib.hid h
  have HCL := Lib.hid (fun (W : World) (h : TxV W (.slice x L.length c) L) => wclone h hL)
  have HST := Lib.hid (fun (W : World) (base : Nat) (y : Option Addr) (cap : Nat) (h : W.ownsRow base 9 1 (.slice y L.length cap) L.length (strs L)) (hb : base ≤ W.heap.size) => wsort h hL hb)
  have HLB := Lib.hid (fun i (hi : i < L.length) W => dlabel (L.getD i []) (hs i hi) W)
  have HW : Hid (∀ W, Calls Tryz.prog 29 #[.int .i64 (L.length : Nat), .int .i64 1, .int .i64 256] W fun e w' => e = .returned (.bool (decide (1 ≤ L.length ∧ L.length ≤ 256))) ∧ W = w') := Lib.hid (fun W => by
    have h := dwithin (L.length : Nat) 1 256 W
    rw [show decide (1 ≤ L.length ∧ L.length ≤ 256) = decide ((1 : Int) ≤ (L.length : Int) ∧ (L.length : Int) ≤ 256) from by rw [decide_eq_decide]; omega]
    exact h)
  have HOL := Lib.hid (fun i (hi : i < L.length) (h : labelP (L.getD i []) = false) => opts_label hi h)
  have HOT := Lib.hid (fun i (h1 : 1 ≤ i) (hi : i < L.length) (h : (srtS L).getD i [] = (srtS L).getD (i - 1) []) => opts_twin h1 hi h)
  have HOL0 := Lib.hid (fun h => opts_len (L := L) h)
  have HOE := Lib.hid (fun h => opts_end (L := L) h)
  obtain ⟨R, hR⟩ : ∃ R, R = optsP L := ⟨_, rfl⟩
  rw [← hR] at HOL HOT HOL0 HOE ⊢
  obtain ⟨n, hn⟩ : ∃ n, n = L.length := ⟨_, rfl⟩
  rw [← hn] at HV HCL HST HLB HW HOL HOT HOL0 HOE hL ⊢
  have HN := Lib.hid hn
  clear hR hn h hs
  cases hd : decide (1 ≤ n ∧ n ≤ 256)
  · rw [hd] at HW
    have HR := Lib.hid (HOL0.out hd)
    clear hd HOL HOT HOL0 HOE
    go_enter Tryz.func59, Tryz.ntmps59
    go_wp2_with (first | (go_at_call 29; refine (HW.out _).mono ?_; rintro e w1 ⟨rfl, rfl⟩))
    go_ret
    exact ⟨ret_bool HR.out.symm, Below.refl _ _⟩
  · rw [hd] at HW
    have HOE2 := Lib.hid (HOE.out hd)
    have hn1 : 1 ≤ n ∧ n ≤ 256 := by simpa using hd
    obtain ⟨xx, cc, hxc, hcap, _, hgx⟩ := HV.out.old
    have hcap2 : n ≤ c := by
      have e : xx = x ∧ c = cc := by simp at hxc; exact ⟨hxc.1.symm, hxc.2.2⟩
      rw [e.2, HN.out]; exact hcap
    obtain ⟨g, o, rfl⟩ : ∃ g o, x = some ⟨g, o, none⟩ := by
      have e : xx = x := by simp at hxc; exact hxc.1.symm
      obtain ⟨g, o, h1, _⟩ := hgx (by intro e; have := HN.out; rw [e] at this; simp at this; omega)
      exact ⟨g, o, by rw [← e]; exact h1⟩
    have HG : Hid (∀ W, TxV W (.slice (some ⟨g, o, none⟩) n c) L → ∀ i, i < n → W.cell? ⟨g, o + i, none⟩ = some (.string (tx (L.getD i [])))) := Lib.hid (fun W hW i hi => by
      obtain ⟨x2, c2, he, _, _, hg⟩ := hW.old
      obtain ⟨g2, o2, h1, _, h2⟩ := hg (by intro e; have := HN.out; rw [e] at this; simp at this; omega)
      rw [h1] at he
      obtain ⟨⟨rfl, rfl⟩, _⟩ : (g = g2 ∧ o = o2) ∧ c = c2 := by simp at he; exact ⟨he.1, he.2.2⟩
      exact h2 i (by rw [← HN.out]; exact hi))
    clear hd HOL0 HOE hxc hcap hgx
    go_enter Tryz.func59, Tryz.ntmps59
    go_wp2_with (first | (go_at_call 29; refine (HW.out _).mono ?_; rintro e w1 ⟨rfl, rfl⟩))
    go_loopw [13] (fun i wr => ∃ k : Nat, i = .int .i64 k ∧ k ≤ n ∧ Hid ((∀ i, i < k → labelP (L.getD i []) = true) ∧ Below w.heap.size w wr)) (fun i _ => n - (intOf i).toNat)
    case atStart => exact ⟨0, rfl, Nat.zero_le _, Lib.hid ⟨fun i hi => absurd hi (by omega), Below.refl _ _⟩⟩
    case round =>
      obtain ⟨k, rfl, hk, HI⟩ := hrel
      by_cases hlt : k < n
      · have ck := HG.out wr (HV.out.below HI.out.2) k hlt
        have i1 : (0 : Int) ≤ (k : Int) := by omega
        have i2 : (k : Int) < (n : Int) := by omega
        have HLK := Lib.hid (fun W => HLB.out k hlt W)
        have HBK := Lib.hid (HOL.out k hlt)
        have HNK : Hid (labelP (L.getD k []) = true → ∀ i, i < k + 1 → labelP (L.getD i []) = true) := Lib.hid (fun hq i hi => by
          rcases Nat.lt_or_ge i k with z | z
          · exact HI.out.1 i z
          · obtain rfl : i = k := by omega
            exact hq)
        have HBW := Lib.hid HI.out.2
        obtain ⟨T, hT⟩ : ∃ T, T = tx (L.getD k []) := ⟨_, rfl⟩
        rw [← hT] at ck HLK
        obtain ⟨B, hB⟩ : ∃ B, B = labelP (L.getD k []) := ⟨_, rfl⟩
        rw [← hB] at HLK HBK HNK
        clear hT hB HI HLB HOL HOT HOE2 HG HV HCL HST HW
        cases B
        · have HR := Lib.hid (HBK.out rfl)
          clear HBK HNK
          go_wp2_with (first | (go_at_call 30; refine (HLK.out _).mono ?_; rintro e w2 ⟨rfl, hb2⟩))
          go_ret
          exact ⟨ret_bool HR.out.symm, HBW.out.trans (below_le hb2 HBW.out.size)⟩
        · have HN2 := Lib.hid (HNK.out rfl)
          clear HBK HNK
          go_wp2_with (first | (go_at_call 30; refine (HLK.out _).mono ?_; rintro e w2 ⟨rfl, hb2⟩))
          go_roundw
          case rel => exact ⟨k + 1, by go_num, by omega, Lib.hid ⟨HN2.out, HBW.out.trans (below_le hb2 HBW.out.size)⟩⟩
          case measure => simp [intOf]; omega
      · obtain rfl : k = n := by omega
        have HLA := Lib.hid HI.out.1
        have HBW := Lib.hid HI.out.2
        have HVR := Lib.hid (HV.out.below HI.out.2)
        have HCR := Lib.hid (HCL.out wr HVR.out)
        have HOE3 := Lib.hid (HOE2.out HLA.out)
        clear HI HLB HOL HOE2 HG HV HCL HW hlt hk HLA
        go_wp2_with (first | (go_at_call 71; fail))
        go_at_call 71
        refine HCR.out.mono ?_
        rintro e w2 ⟨y, cap, rfl, ho, hb2⟩
        have HS2 := Lib.hid (HST.out w2 _ y cap ho hb2.size)
        have HB2 := Lib.hid (HBW.out.trans (below_le hb2 HBW.out.size))
        have HWR := Lib.hid HBW.out.size
        clear HCR HST HBW HVR ho hb2
        go_wp2_with (first | (go_at_call 72; fail))
        go_at_call 72
        refine HS2.out.mono ?_
        rintro e w3 ⟨rfl, hb3, hc3⟩
        have HB3 : Hid (Below w.heap.size w w3) := Lib.hid (HB2.out.trans (below_le hb3 HWR.out))
        obtain ⟨q, rfl, hcp, _⟩ := hc3 0 (by omega)
        have HC3 : Hid (∀ j, j < k → w3.cell? ⟨q, j, none⟩ = some (.string (tx ((srtS L).getD j [])))) := Lib.hid (fun j hj => by
          obtain ⟨q2, h1, _, h2⟩ := hc3 j hj
          obtain rfl : q = q2 := by simpa using h1
          exact h2)
        clear HS2 HB2 hb3 hc3 HWR
        go_wp2
        go_loopw [6] (fun i wq => ∃ j : Nat, i = .int .i64 ((j : Int) + 1) ∧ j + 1 ≤ k ∧ Hid ((∀ i, 1 ≤ i → i < j + 1 → (srtS L).getD i [] ≠ (srtS L).getD (i - 1) []) ∧ Below w.heap.size w wq ∧ ∀ j, j < k → wq.cell? ⟨q, j, none⟩ = some (.string (tx ((srtS L).getD j [])))))  (fun i _ => k - (intOf i).toNat)
        case atStart => exact ⟨0, rfl, hn1.1, Lib.hid ⟨fun i h1 h2 => absurd h2 (by omega), HB3.out, HC3.out⟩⟩
        case round =>
          obtain ⟨j, rfl, hjk, HJ⟩ := hrel
          by_cases hlt : j + 1 < k
          · have ca := HJ.out.2.2 (j + 1) hlt
            have cb := HJ.out.2.2 j (by omega)
            have HBQ := Lib.hid HJ.out.2.1
            have HCQ := Lib.hid HJ.out.2.2
            have HPR := Lib.hid HJ.out.1
            obtain ⟨a, ha⟩ : ∃ a, a = (srtS L).getD (j + 1) [] := ⟨_, rfl⟩
            obtain ⟨b, hb⟩ : ∃ b, b = (srtS L).getD j [] := ⟨_, rfl⟩
            have HTE := Lib.hid (tx_beq a b)
            have HTW : Hid (a = b → R = false) := Lib.hid (fun e => HOT.out (j + 1) (by omega) hlt (by rw [Nat.add_sub_cancel, ← ha, ← hb]; exact e))
            have HNX : Hid (a ≠ b → ∀ i, 1 ≤ i → i < j + 1 + 1 → (srtS L).getD i [] ≠ (srtS L).getD (i - 1) []) := Lib.hid (fun hne i h1 h2 => by
              rcases Nat.lt_or_ge i (j + 1) with z | z
              · exact HPR.out i h1 z
              · obtain rfl : i = j + 1 := by omega
                rw [Nat.add_sub_cancel, ← ha, ← hb]
                exact hne)
            rw [← ha] at ca
            rw [← hb] at cb
            have HBD : Hid (∀ d, Below w.heap.size w (wr.drewN d)) := Lib.hid (fun d => HBQ.out.trans ⟨rfl, rfl, rfl, Nat.le_refl _, fun _ _ => rfl⟩)
            generalize tx a = A at ca HTE
            generalize tx b = B at cb HTE
            have i1 : (0 : Int) ≤ (j : Int) + 1 := by omega
            have i2 : (j : Int) + 1 < (k : Int) := by omega
            have i3 : (0 : Int) ≤ (j : Int) := by omega
            have i4 : (j : Int) < (k : Int) := by omega
            clear HJ HC3 HB3 HOE3 HOT HPR ha hb HBQ
            by_cases hab : a = b
            · have HR := Lib.hid (HTW.out hab)
              have ht := HTE.out
              rw [decide_eq_true hab] at ht
              clear hab HTW HNX HTE
              go_wp2
              go_quiet (fail)
              go_wp2
              go_ret
              exact ⟨ret_bool HR.out.symm, HBD.out _⟩
            · have HN2 := Lib.hid (HNX.out hab)
              have ht := HTE.out
              rw [decide_eq_false hab] at ht
              clear hab HTW HNX HTE
              go_wp2
              go_quiet (fail)
              go_wp2
              go_roundw
              case rel => exact ⟨j + 1, by go_num, by omega, Lib.hid ⟨HN2.out, HBD.out _, fun i hi => HCQ.out i hi⟩⟩
              case measure => simp [intOf]; omega
          · have HR := Lib.hid (HOE3.out (fun i h1 h2 => HJ.out.1 i h1 (by omega)))
            have HBQ := Lib.hid HJ.out.2.1
            clear HJ HC3 HB3 HOE3 HOT
            go_wp2
            go_ret
            exact ⟨ret_bool HR.out.symm, HBQ.out⟩
end Go.Proofs.YtdomglkcfecnnaaGreat
/- Walks: num: keys, finite numbers, values, how many places. -/
namespace Go.Proofs.YtdomglkcfecnnaaGreat
open Go.RowKit Go.Shelf
open Ieee
theorem call_bits (x : Nat) (w : World) : (callFunc 46 #[.float .f64 x]).run Tryz.prog w = .ok (.value (.int .u64 x)) w := by
  rw [run_callFunc_extern (P := Tryz.prog) (f := 46) (fn := Tryz.f46) (e := Extern.MathFloatBits.float64bits) (by kernel_rfl) (by kernel_rfl) (by kernel_rfl) (by kernel_rfl) (by kernel_rfl)]
  rfl
theorem ord_nan {x : Nat} (h : isNan x = true) : FloatKind.f64.format.order x x = none := order_nan x x (.inl h)
theorem ord_num {x : Nat} (h : isNan x = false) : FloatKind.f64.format.order x x = some .eq := by
  have := order_val x x h h
  rw [show FloatKind.f64.format = Ieee.double from rfl, this]; simp
set_option maxHeartbeats 400000 in
theorem tkey (x : Nat) (hx : x < 18446744073709551616) (w : World) : Calls Tryz.prog 77 #[.float .f64 x] w fun e w' => e = .returned (.int .u64 (keyN x : Nat)) ∧ w = w' := by
  have hb := call_bits
  have hsg : IntKind.u64.signed = false := rfl
  cases hn : isNan x
  · have ho := ord_num hn
    rcases Nat.lt_or_ge x (2 ^ 63) with h | h
    · have e : keyN x = x + 9223372036854775808 := by unfold keyN; rw [hn]; simp only [Bool.false_eq_true, if_false]; rw [if_pos (by omega)]
      have E := Lib.hid e
      have a := u64_and_top x (by omega)
      rw [if_pos h] at a
      have o := u64_or_top x h
      clear e hn h hx
      go_enter Tryz.func77, Tryz.ntmps77
      go_wp2
      go_ret
      exact ⟨ret_int (by rw [E.out]; omega), rfl⟩
    · have e : keyN x = 18446744073709551615 - x := by unfold keyN; rw [hn]; simp only [Bool.false_eq_true, if_false]; rw [if_neg (by omega)]
      have E := Lib.hid e
      have a := u64_and_top x (by omega)
      rw [if_neg (by omega)] at a
      have o := u64_not x (by omega)
      clear e hn h hx
      go_enter Tryz.func77, Tryz.ntmps77
      go_wp2
      go_ret
      exact ⟨ret_int (by rw [E.out]), rfl⟩
  · have ho := ord_nan hn
    have E := Lib.hid (Go.Proofs.YtdomglkcfecnnaaGreat.key_nan x hn)
    clear hn
    go_enter Tryz.func77, Tryz.ntmps77
    go_wp2
    go_ret
    exact ⟨ret_int (by rw [E.out]; rfl), rfl⟩
theorem ord_val {a b : Nat} (ha : isNan a = false) (hb : isNan b = false) : FloatKind.f64.format.order a b = some (compare (sv a) (sv b)) := order_val a b ha hb
theorem ord_cases {a b : Nat} (ha : isNan a = false) (hb : isNan b = false) :
    (sv a < sv b ∧ FloatKind.f64.format.order a b = some .lt) ∨ (sv a = sv b ∧ FloatKind.f64.format.order a b = some .eq) ∨ (sv b < sv a ∧ FloatKind.f64.format.order a b = some .gt) := by
  rw [ord_val ha hb]
  rcases Int.lt_trichotomy (sv a) (sv b) with h | h | h
  · exact .inl ⟨h, by rw [Int.compare_eq_lt.2 h]⟩
  · exact .inr (.inl ⟨h, by rw [h]; simp⟩)
  · exact .inr (.inr ⟨h, by rw [Int.compare_eq_gt.2 h]⟩)
def maxF : Nat := 9218868437227405311
def minF : Nat := 18442240474082181119
theorem nan_max : isNan maxF = false := by decide
theorem nan_min : isNan minF = false := by decide
theorem rung_max : rung maxF = 2047 * 2 ^ 52 - 1 := by decide
theorem rung_min : rung minF = 2047 * 2 ^ 52 - 1 := by decide
theorem neg_max : isNeg maxF = false := by decide
theorem neg_min : isNeg minF = true := by decide
theorem valN_top : valN (2047 * 2 ^ 52 - 1) < valN (2047 * 2 ^ 52) := valN_lt (by decide)
/-- The two tests by which a number is finite. -/
theorem fin_tests (x : Nat) : (finB x = true → (FloatKind.f64.format.order x 18442240474082181119 == some .gt || FloatKind.f64.format.order x 18442240474082181119 == some .eq) = true ∧ (FloatKind.f64.format.order x 9218868437227405311 == some .lt || FloatKind.f64.format.order x 9218868437227405311 == some .eq) = true) ∧
    (finB x = false → (FloatKind.f64.format.order x 18442240474082181119 == some .gt || FloatKind.f64.format.order x 18442240474082181119 == some .eq) = false ∨ ((FloatKind.f64.format.order x 18442240474082181119 == some .gt || FloatKind.f64.format.order x 18442240474082181119 == some .eq) = true ∧ (FloatKind.f64.format.order x 9218868437227405311 == some .lt || FloatKind.f64.format.order x 9218868437227405311 == some .eq) = false)) := by
  show (finB x = true → (FloatKind.f64.format.order x minF == some .gt || FloatKind.f64.format.order x minF == some .eq) = true ∧ (FloatKind.f64.format.order x maxF == some .lt || FloatKind.f64.format.order x maxF == some .eq) = true) ∧
    (finB x = false → (FloatKind.f64.format.order x minF == some .gt || FloatKind.f64.format.order x minF == some .eq) = false ∨ ((FloatKind.f64.format.order x minF == some .gt || FloatKind.f64.format.order x minF == some .eq) = true ∧ (FloatKind.f64.format.order x maxF == some .lt || FloatKind.f64.format.order x maxF == some .eq) = false))
  have vmax : sv maxF = valN (2047 * 2 ^ 52 - 1) := by unfold sv; rw [neg_max, rung_max]; rfl
  have vmin : sv minF = -(valN (2047 * 2 ^ 52 - 1) : Int) := by unfold sv; rw [neg_min, rung_min]; rfl
  have vt := valN_top
  generalize hT : valN (2047 * 2 ^ 52 - 1) = T at *
  constructor
  · intro h
    have hn := fin_num h
    have hv : valN (rung x) ≤ T := by rw [← hT]; exact valN_le (by simp only [finB, decide_eq_true_eq] at h; omega)
    have hs : -(T : Int) ≤ sv x ∧ sv x ≤ T := by unfold sv; split <;> omega
    constructor
    · rcases ord_cases hn nan_min with ⟨k, r⟩ | ⟨k, r⟩ | ⟨k, r⟩
      · omega
      · rw [r]; rfl
      · rw [r]; rfl
    · rcases ord_cases hn nan_max with ⟨k, r⟩ | ⟨k, r⟩ | ⟨k, r⟩
      · rw [r]; rfl
      · rw [r]; rfl
      · omega
  · intro h
    cases hn : isNan x
    · have hr : rung x = 2047 * 2 ^ 52 := by simp only [finB, isNan, decide_eq_false_iff_not] at h hn; omega
      have hs : sv x = if isNeg x then -(valN (2047 * 2 ^ 52) : Int) else valN (2047 * 2 ^ 52) := by unfold sv; rw [hr]
      generalize valN (2047 * 2 ^ 52) = U at *
      cases hg : isNeg x
      · rw [hg] at hs; simp only [Bool.false_eq_true, if_false] at hs
        right
        constructor
        · rcases ord_cases hn nan_min with ⟨k, r⟩ | ⟨k, r⟩ | ⟨k, r⟩
          · omega
          · rw [r]; rfl
          · rw [r]; rfl
        · rcases ord_cases hn nan_max with ⟨k, r⟩ | ⟨k, r⟩ | ⟨k, r⟩
          · omega
          · omega
          · rw [r]; rfl
      · rw [hg] at hs; simp only [if_true] at hs
        left
        rcases ord_cases hn nan_min with ⟨k, r⟩ | ⟨k, r⟩ | ⟨k, r⟩
        · rw [r]; rfl
        · omega
        · omega
    · left
      have : FloatKind.f64.format.order x minF = none := order_nan _ _ (.inl hn)
      rw [this]; rfl
set_option maxHeartbeats 400000 in
theorem tfinite (x : Nat) (w : World) : Calls Tryz.prog 89 #[.float .f64 x] w fun e w' => e = .returned (.bool (finB x)) ∧ w = w' := by
  obtain ⟨ht, hf⟩ := fin_tests x
  cases h : finB x
  · rcases hf h with h1 | ⟨h1, h2⟩
    · clear ht hf h
      go_enter Tryz.func89, Tryz.ntmps89; go_wp2; go_ret; exact ⟨rfl, rfl⟩
    · clear ht hf h
      go_enter Tryz.func89, Tryz.ntmps89; go_wp2; go_ret; exact ⟨rfl, rfl⟩
  · obtain ⟨h1, h2⟩ := ht h
    clear ht hf h
    go_enter Tryz.func89, Tryz.ntmps89; go_wp2; go_ret; exact ⟨rfl, rfl⟩
set_option maxHeartbeats 400000 in
theorem tvalue (lo step : Nat) (k : Nat) (hl : finB lo = true) (hs : finB step = true) (hk : k < 2 ^ 53) (w : World) : Calls Tryz.prog 90 #[.float .f64 lo, .float .f64 step, .int .i64 k] w fun e w' => e = .returned (.float .f64 (valB lo step k)) ∧ w = w' := by
  have h1 : floatBits .mul .f64 (floatOfInt .f64 k) step = some (prodB step k) := (prodB_eq step k hs hk).1
  have h2 : floatBits .add .f64 lo (prodB step k) = some (valB lo step k) := (valB_eq lo step k hl hs hk).1
  have m := fun w' : World => run_float_arith (P := Tryz.prog) w' .mul 60 .f64 _ _ _ h1
  have a := fun w' : World => run_float_arith (P := Tryz.prog) w' .add 60 .f64 _ _ _ h2
  clear h1 h2 hl hs hk
  go_enter Tryz.func90, Tryz.ntmps90; go_wp2; go_ret; exact ⟨rfl, rfl⟩
theorem sv_zero0 : sv 0 = 0 := by decide
theorem nan_zero : isNan 0 = false := by decide
theorem le_test {a b : Nat} (c : Bool) (h : leB a b = c) : (FloatKind.f64.format.order a b == some .lt || FloatKind.f64.format.order a b == some .eq) = c := h
set_option maxRecDepth 100000 in
set_option maxHeartbeats 1000000 in
theorem tsteps_bad (lo hi step : Nat) (w : World) (h : stepsBad lo hi step = true) : Calls Tryz.prog 73 #[.float .f64 lo, .float .f64 hi, .float .f64 step] w fun e w' => e = .returned (.tuple #[.int .i64 0, .int .i64 180]) ∧ w = w' := by
  cases f1 : finB lo
  · clear h
    go_enter Tryz.func73, Tryz.ntmps73
    go_wp2_with (go_at_call 89; refine (tfinite _ _).mono ?_; rintro e w' ⟨rfl, rfl⟩)
    go_ret2; exact ⟨rfl, rfl⟩
  cases f2 : finB hi
  · clear h
    go_enter Tryz.func73, Tryz.ntmps73
    go_wp2_with (go_at_call 89; refine (tfinite _ _).mono ?_; rintro e w' ⟨rfl, rfl⟩)
    go_ret2; exact ⟨rfl, rfl⟩
  cases f3 : finB step
  · clear h
    go_enter Tryz.func73, Tryz.ntmps73
    go_wp2_with (go_at_call 89; refine (tfinite _ _).mono ?_; rintro e w' ⟨rfl, rfl⟩)
    go_ret2; exact ⟨rfl, rfl⟩
  simp only [stepsBad, f1, f2, f3, Bool.not_true, Bool.false_or, Bool.or_eq_true, decide_eq_true_eq] at h
  rcases ord_cases (fin_num f1) (fin_num f2) with ⟨k, r⟩ | ⟨k, r⟩ | ⟨k, r⟩
  case inr.inr =>
    clear h k
    go_enter Tryz.func73, Tryz.ntmps73
    go_wp2_with (go_at_call 89; refine (tfinite _ _).mono ?_; rintro e w' ⟨rfl, rfl⟩)
    go_ret2; exact ⟨rfl, rfl⟩
  all_goals
    have h4 : sv step ≤ 0 := by omega
    rcases ord_cases (fin_num f3) nan_zero with ⟨q, t⟩ | ⟨q, t⟩ | ⟨q, t⟩
    case inr.inr => rw [sv_zero0] at q; omega
    all_goals
      clear h k q h4
      go_enter Tryz.func73, Tryz.ntmps73
      go_wp2_with (go_at_call 89; refine (tfinite _ _).mono ?_; rintro e w' ⟨rfl, rfl⟩)
      go_ret2; exact ⟨rfl, rfl⟩
set_option maxRecDepth 100000 in
set_option maxHeartbeats 1000000 in
theorem tsteps_good (lo hi step : Nat) (w : World) (h : stepsBad lo hi step = false) : Calls Tryz.prog 73 #[.float .f64 lo, .float .f64 hi, .float .f64 step] w fun e w' => e = .returned (.tuple #[.int .i64 (stepsN lo hi step : Nat), .int .i64 (stepsE lo hi step)]) ∧ w = w' := by
  have g := h
  simp only [stepsBad, Bool.or_eq_false_iff, Bool.not_eq_false', decide_eq_false_iff_not] at g
  obtain ⟨f1, f2, f3, g4, g5⟩ := g
  have HV := Lib.hid (fun k hk => tvalue lo step k f1 f3 hk)
  have HS := Lib.hid (stepsRaw_eq lo hi step)
  have e1 : stepsN lo hi step = if 10001 < stepsRaw lo hi step then 0 else stepsRaw lo hi step := by unfold stepsN; rw [h]; simp only [Bool.false_eq_true, if_false]
  have e2 : stepsE lo hi step = if 10001 < stepsRaw lo hi step then 180 else 0 := by unfold stepsE; rw [h]; simp only [Bool.false_eq_true, if_false]
  have E1 := Lib.hid e1
  have E2 := Lib.hid e2
  rcases ord_cases (fin_num f1) (fin_num f2) with ⟨k, r⟩ | ⟨k, r⟩ | ⟨k, r⟩
  case inr.inr => omega
  all_goals
    rcases ord_cases (fin_num f3) nan_zero with ⟨q, t⟩ | ⟨q, t⟩ | ⟨q, t⟩
    case inl => rw [sv_zero0] at q; omega
    case inr.inl => rw [sv_zero0] at q; omega
    clear k q g4 g5 h e1 e2
    go_enter Tryz.func73, Tryz.ntmps73
    go_wp2_with (go_at_call 89; refine (tfinite _ _).mono ?_; rintro e w' ⟨rfl, rfl⟩)
    go_loop [8] (fun i => ∃ k : Nat, k ≤ 10002 ∧ i = .int .i64 k ∧ Hid (∀ j, j < k → leB (valB lo step j) hi = true)) (fun i => 10002 - (intOf i).toNat)
    case atStart => exact ⟨0, by omega, rfl, fun j hj => absurd hj (by omega)⟩
    case round =>
      obtain ⟨k, hk, rfl, hall⟩ := hrel
      by_cases hlt : k ≤ 10001
      · cases hp : leB (valB lo step k) hi
        · have hraw := Lib.hid (HS.out k (by omega) hall.out (.inr hp))
          have hp' := le_test _ hp
          have hng : ¬ 10001 < k := by omega
          have HNG := Lib.hid hng
          have ht1 : decide ((k : Int) ≤ 10001) = true := by simp; omega
          have ht2 : decide ((10001 : Int) < (k : Int)) = false := by simp; omega
          have HK := Lib.hid (show k < 2 ^ 53 by omega)
          clear hp hng hlt hk
          go_wp2_with (go_at_call 90; refine (HV.out k HK.out _).mono ?_; rintro e w' ⟨rfl, rfl⟩)
          go_ret2
          have hr := hraw.out
          exact ⟨by rw [E1.out, E2.out, hr, if_neg HNG.out, if_neg HNG.out]; rfl, rfl⟩
        · have hall2 : Hid (∀ j, j < k + 1 → leB (valB lo step j) hi = true) := fun j hj => by
            rcases Nat.lt_or_ge j k with z | z
            · exact hall.out j z
            · rw [show j = k by omega]; exact hp
          have hp' := le_test _ hp
          clear hp
          go_wp2_with (go_at_call 90; refine (HV.out k (by omega) _).mono ?_; rintro e w' ⟨rfl, rfl⟩)
          go_round
          case rel => exact ⟨k + 1, by omega, by go_num, hall2⟩
          case measure => simp [intOf]; omega
      · have hk2 : k = 10002 := by omega
        subst hk2
        have hraw := Lib.hid (HS.out 10002 (by omega) hall.out (.inl rfl))
        go_wp2_with fail
        go_ret2
        have hr := hraw.out
        exact ⟨by rw [E1.out, E2.out, hr, if_pos (by omega), if_pos (by omega)]; rfl, rfl⟩
theorem tsteps (lo hi step : Nat) (w : World) : Calls Tryz.prog 73 #[.float .f64 lo, .float .f64 hi, .float .f64 step] w fun e w' => e = .returned (.tuple #[.int .i64 (stepsN lo hi step : Nat), .int .i64 (stepsE lo hi step)]) ∧ w = w' := by
  cases h : stepsBad lo hi step
  · exact tsteps_good lo hi step w h
  · have e1 : stepsN lo hi step = 0 := by unfold stepsN; rw [h]; simp only [if_true]
    have e2 : stepsE lo hi step = 180 := by unfold stepsE; rw [h]; simp only [if_true]
    rw [e1, e2]
    exact tsteps_bad lo hi step w h
end Go.Proofs.YtdomglkcfecnnaaGreat
