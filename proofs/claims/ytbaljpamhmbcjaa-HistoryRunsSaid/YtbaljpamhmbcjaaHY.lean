/- Walk: back. -/
import Derived.Test.YtbaljpamhmbcjaaHX
namespace Go.Proofs.Ytbaljpamhmbcjaa
open Go.RowKit Go.Shelf
/-- The told lines. -/
def tpL (L : List Bs) (d bg : Bs) : List Bs := (tp L d bg).map (fun i => L.getD i [])
theorem tpL_len (L : List Bs) (d bg : Bs) : (tpL L d bg).length = (tp L d bg).length := by simp [tpL]
theorem tpL_take (L : List Bs) (d bg : Bs) {k : Nat} (hk : k < (tp L d bg).length) : (tpL L d bg).take (k + 1) = (tpL L d bg).take k ++ [L.getD ((tp L d bg).getD k 0) []] := by
  rw [List.take_succ_eq_append_getElem (by rw [tpL_len]; exact hk), getD_at hk]
  simp [tpL]
theorem tpL_filter (L : List Bs) (d bg : Bs) : tpL L d bg = L.filter (fun l => toldB l d bg) := by
  have h : ∀ (n : Nat) (L : List Bs), L.length = n → ((List.range L.length).filter (fun j => toldB (L.getD j []) d bg)).map (fun i => L.getD i []) = L.filter (fun l => toldB l d bg) := by
    intro n
    induction n with
    | zero => intro L hL; rw [List.length_eq_zero_iff.1 hL]; rfl
    | succ n ih =>
      intro L hL
      obtain ⟨A, a, rfl⟩ : ∃ A a, L = A ++ [a] := ⟨L.dropLast, L.getLast (by intro e; rw [e] at hL; cases hL), (List.dropLast_concat_getLast _).symm⟩
      have hA : A.length = n := by simpa using hL
      have h1 := ih A hA
      have g1 : ∀ j, j < A.length → (A ++ [a]).getD j [] = A.getD j [] := fun j hj => by rw [List.getD_eq_getElem?_getD, List.getD_eq_getElem?_getD, List.getElem?_append_left hj]
      have g2 : (A ++ [a]).getD A.length [] = a := by simp [List.getD_eq_getElem?_getD]
      have e1 : (List.range A.length).filter (fun j => toldB ((A ++ [a]).getD j []) d bg) = (List.range A.length).filter (fun j => toldB (A.getD j []) d bg) := by
        apply List.filter_congr
        intro j hj
        rw [g1 j (by simpa using hj)]
      have e2 : ((List.range A.length).filter (fun j => toldB (A.getD j []) d bg)).map (fun i => (A ++ [a]).getD i []) = ((List.range A.length).filter (fun j => toldB (A.getD j []) d bg)).map (fun i => A.getD i []) := by
        apply List.map_congr_left
        intro j hj
        exact g1 j (by simpa using (List.mem_filter.1 hj).1)
      rw [List.length_append, List.length_singleton, List.range_succ, List.filter_append, List.map_append, e1, e2, h1, List.filter_append]
      congr 1
      rw [List.filter_cons, List.filter_cons]
      simp only [g2]
      split <;> simp
  exact h L.length L rfl
theorem His.grown {W W' : World} {b : Nat} {m : Int} {L : List Bs} {k : Wk} {x : Option Addr} {c n0 : Nat} {row : Option Nat} (h : His W b m L k x c) (hg : W.grownBy W' row) (hr : ∀ j, row = some j → n0 ≤ j) (hb : b < n0) (hx : ∀ j, x.map (·.block) = some j → j < n0) : His W' b m L k x c :=
  ⟨(hg.block b h.lt (fun e => by have := hr b e.symm; omega)).trans h.hd, h.row.kept (fun j hj => hg.block j (h.row.lt j hj).1 (fun e => by have := hr j e.symm; have := hx j hj; omega))⟩
theorem But.grownN {l : List Nat} {w W W' : World} {row : Option Nat} (h : But l w W) (hg : W.grownBy W' row) (hr : ∀ j, row = some j → w.heap.size ≤ j) : But l w W' :=
  ⟨hg.os.trans h.os, hg.tape.trans h.tape, hg.output.trans h.output, Nat.le_trans h.size hg.size, fun j hj hl => (hg.block j (by have := h.size; omega) (fun e => by have := hr j e.symm; omega)).trans (h.block j hj hl)⟩
theorem grown_alloc (W : World) (o : Obj) : W.grownBy (W.alloc o) none := ⟨rfl, rfl, rfl, by simp, fun _ hk _ => Below.heap_alloc _ _ _ hk⟩
/-- What back's loop keeps. -/
structure BkI (w : World) (b : Nat) (m : Int) (L : List Bs) (d bg : Bs) (x : Option Addr) (c k : Nat) (v : Value) (W : World) : Prop where
  his : His W b m L (wkAt L d bg k) x c
  but : But [b] w W
  row : W.ownsRow w.heap.size 9 1 v k (strs ((tpL L d bg).take k))
def BackEnd (w : World) (b : Nat) (m : Int) (L : List Bs) (d bg : Bs) (x : Option Addr) (c : Nat) (e : Ending) (w' : World) : Prop := ∃ y cap, e = .returned (.slice y (tpL L d bg).length cap) ∧ RowL w' y cap (tpL L d bg) ∧ His w' b m L (wkAt L d bg (tp L d bg).length) x c ∧ But [b] w w'
set_option maxRecDepth 100000 in
set_option maxHeartbeats 2000000 in
theorem wback (b : Nat) (m : Int) (hm : 0 < m) (L : List Bs) (hL : L.length ≤ 256) (x : Option Addr) (c : Nat) (d bg : Bs) (w : World) (h : His w b m L Wk.no x c) : Calls Try.prog 10 #[.pointer (some ⟨b, 0, none⟩), .string (tx d), .string (tx bg)] w (BackEnd w b m L d bg x c) := by
  obtain ⟨i0, hi, hz0, hz1, hz2⟩ := info_parts9
  have HI9 := Lib.hid (And.intro hi (And.intro hz0 (And.intro hz1 hz2)))
  have hNL := tp_len L d bg
  obtain ⟨N, hN⟩ : ∃ N, N = (tp L d bg).length := ⟨_, rfl⟩
  have HN := Lib.hid hN
  rw [← hN] at hNL
  have H0 : Hid (BkI w b m L d bg x c 0 (.slice none 0 0) w) := Lib.hid ⟨h, But.refl _ _, World.ownsRow_nil _ _ _ _⟩
  have HB := Lib.hid (And.intro h.lt (fun j hj => (h.row.lt j hj).1))
  have HOL := Lib.hid (fun k (hk : k ≤ N) W (hW : His W b m L (wkAt L d bg k) x c) => wHolder b m hm L (by omega) _ (wkAt_ok (by omega)) x c d bg W hW)
  unfold twoE at HOL
  have HLL := Lib.hid hL
  obtain ⟨D, hD⟩ : ∃ D, D = tx d := ⟨_, rfl⟩
  obtain ⟨G, hG⟩ : ∃ D, D = tx bg := ⟨_, rfl⟩
  rw [← hD, ← hG] at HOL ⊢
  clear h hD hG hi hz0 hz1 hz2 hN hm
  go_enter Try.func10, Try.ntmps10
  go_wp2
  go_loopw [7, 8] (fun v i wr => ∃ k : Nat, i = .int .i64 (k : Int) ∧ k ≤ N ∧ Hid (BkI w b m L d bg x c k v wr)) (fun _ i _ => 300 - (intOf i).toNat)
  case atStart => exact ⟨0, rfl, Nat.zero_le _, H0⟩
  case round =>
    clear H0
    obtain ⟨k, rfl, hk, HR⟩ := hrel
    have i1 : (0 : Int) ≤ (k : Int) := by omega
    have i2 : (k : Int) < 300 := by omega
    have HO := Lib.hid (HOL.out k hk wr HR.out.his)
    by_cases hlt : k < N
    · rw [older_some (by have := HN.out; omega)] at HO
      simp only at HO
      obtain ⟨X, hX⟩ : ∃ X, X = tx (L.getD ((tp L d bg).getD k 0) []) := ⟨_, rfl⟩
      rw [← hX] at HO
      have HX := Lib.hid hX
      clear hX
      go_wp2_with (first | (go_at_call 25; fail))
      go_at_call 25
      refine HO.out.mono ?_
      rintro e w2 ⟨rfl, hh2, hb2⟩
      have hrow2 : w2.ownsRow w.heap.size 9 1 _ k (strs ((tpL L d bg).take k)) := row_kept HR.out.row (fun j hj => hb2.block j ((HR.out.row.lt j hj).2) (fun e => by
        have := (HR.out.row.lt j hj).1
        have := HB.out.1
        simp at e
        omega))
      have HH := Lib.hid hh2
      have HBU := Lib.hid (HR.out.but.trans hb2)
      have HRW := Lib.hid hrow2
      have HT := Lib.hid (tpL_take L d bg (k := k) (by have := HN.out; omega))
      clear hh2 hb2 hrow2
      go_wp2_with (at_builtin; go_loud (refine wpList_append_own _ rfl _ _ 22 rfl w.heap.size 9 i0 (.string ⟨#[]⟩) 1 16 Try.underlying22 HI9.out.1 HI9.out.2.1 HI9.out.2.2.1 HI9.out.2.2.2 rfl (by decide) _ _ _ rfl (HRW.out.alloc _) ⟨w2.heap.size, 0, none⟩ 1 1 [.string X] rfl rfl (cell_one_new _ _ _) (by simp [Value.oneCell']) (by unfold maxLen; omega) (by omega) (by have := HBU.out.size; simp; omega) ?_))
      intro v1 w4 hown1 hgrow1 _
      have hr1 := fun j hj => (HRW.out.lt j hj).1
      have HA := Lib.hid (BkI.mk (v := v1) (k := k + 1) ((HH.out.grown (grown_alloc w2 (.cells #[.string X] 9)) (fun j hj => by cases hj) HB.out.1 HB.out.2).grown hgrow1 hr1 HB.out.1 HB.out.2) ((HBU.out.grownN (grown_alloc w2 (.cells #[.string X] 9)) (fun j hj => by cases hj)).grownN hgrow1 hr1) (by rw [HT.out, strs_app, show strs [L.getD ((tp L d bg).getD k 0) []] = [.string X] by rw [HX.out]; rfl]; exact hown1))
      clear hown1 hgrow1 hr1
      go_wp2
      go_roundw
      case rel => exact ⟨k + 1, by go_num, by omega, HA⟩
      case measure => simp [intOf]; omega
    · obtain rfl : k = N := by omega
      rw [older_none HN.out] at HO
      simp only at HO
      go_wp2_with (first | (go_at_call 25; fail))
      go_at_call 25
      refine HO.out.mono ?_
      rintro e w2 ⟨rfl, hh2, hb2⟩
      have hrow2 : w2.ownsRow w.heap.size 9 1 _ k (strs ((tpL L d bg).take k)) := row_kept HR.out.row (fun j hj => hb2.block j ((HR.out.row.lt j hj).2) (fun e => by
        have := (HR.out.row.lt j hj).1
        have := HB.out.1
        simp at e
        omega))
      rw [List.take_of_length_le (by rw [tpL_len, ← HN.out]; exact Nat.le_refl _)] at hrow2
      obtain ⟨y, cap, hv⟩ := ownsRow_is hrow2
      subst hv
      have hl : (tpL L d bg).length = k := by rw [tpL_len, ← HN.out]
      have HE : Hid (BackEnd w b m L d bg x c (.returned (.slice y k cap)) w2) := Lib.hid ⟨y, cap, by rw [hl], by unfold RowL; rw [hl]; exact row_base hrow2, by rw [← HN.out]; exact hh2, HR.out.but.trans hb2⟩
      clear hrow2 hh2 hb2 hl
      go_wp2
      go_ret
      exact HE.out
end Go.Proofs.Ytbaljpamhmbcjaa
