/- Own texts, merged: S3. -/
import Derived.Test.YtdomglkcfecnnaaGreatMP31
/- Walks over the Ops told apart: arity, given, all, made (printed by gen_s3.py). -/
namespace Go.Proofs.YtdomglkcfecnnaaGreat
open Go.RowKit Go.Shelf
attribute [local go_sem] run_store_float
theorem takes_none {op : Bs} (h : op ≠ [110, 117, 109] ∧ op ≠ [116, 101, 120, 116] ∧ op ≠ [110, 97, 109, 101] ∧ op ≠ [110, 111, 116] ∧ op ≠ [110, 101, 103] ∧ op ≠ [108, 101, 110] ∧ op ≠ [97, 98, 115] ∧ op ≠ [111, 114] ∧ op ≠ [97, 110, 100] ∧ op ≠ [104, 97, 115] ∧ op ≠ [61] ∧ op ≠ [33, 61] ∧ op ≠ [60] ∧ op ≠ [60, 61] ∧ op ≠ [62] ∧ op ≠ [62, 61] ∧ op ≠ [43] ∧ op ≠ [45] ∧ op ≠ [42] ∧ op ≠ [47]) : takesT op = none := by
  simp [takesT, isCmp, wnum, wtext, wname, wnot, wneg, wlen, wabs, wor, wand, whas, wplus, wminus, wtimes, wover, h]
theorem made_else {op : Bs} (l : List Nat) (h : op ≠ [110, 117, 109] ∧ op ≠ [116, 101, 120, 116] ∧ op ≠ [110, 97, 109, 101] ∧ op ≠ [110, 111, 116] ∧ op ≠ [110, 101, 103] ∧ op ≠ [108, 101, 110] ∧ op ≠ [97, 98, 115] ∧ op ≠ [111, 114] ∧ op ≠ [97, 110, 100] ∧ op ≠ [104, 97, 115] ∧ op ≠ [61] ∧ op ≠ [33, 61] ∧ op ≠ [60] ∧ op ≠ [60, 61] ∧ op ≠ [62] ∧ op ≠ [62, 61] ∧ op ≠ [43] ∧ op ≠ [45] ∧ op ≠ [42] ∧ op ≠ [47]) : madeT op l = giv 3 (allT 3 l) := by
  simp [madeT, wplus, wminus, wtimes, wover, wneg, wabs, wlen, wlt, wle, wgt, wge, weq, wne, whas, h]
set_option maxHeartbeats 4000000 in
theorem warity (op : Bs) (w : World) : Calls Tryz.prog 107 #[.string (tx op)] w fun e w' => e = .returned (.tuple #[.int .i64 ((takesT op).getD 0 : Nat), .bool (takesT op).isSome]) ∧ w = w' := by
  rcases opcases op with ⟨ho, b0, b1, b2, b3, b4, b5, b6, b7, b8, b9, b10, b11, b12, b13, b14, b15, b16, b17, b18, b19⟩ | ⟨ho, b0, b1, b2, b3, b4, b5, b6, b7, b8, b9, b10, b11, b12, b13, b14, b15, b16, b17, b18, b19⟩ | ⟨ho, b0, b1, b2, b3, b4, b5, b6, b7, b8, b9, b10, b11, b12, b13, b14, b15, b16, b17, b18, b19⟩ | ⟨ho, b0, b1, b2, b3, b4, b5, b6, b7, b8, b9, b10, b11, b12, b13, b14, b15, b16, b17, b18, b19⟩ | ⟨ho, b0, b1, b2, b3, b4, b5, b6, b7, b8, b9, b10, b11, b12, b13, b14, b15, b16, b17, b18, b19⟩ | ⟨ho, b0, b1, b2, b3, b4, b5, b6, b7, b8, b9, b10, b11, b12, b13, b14, b15, b16, b17, b18, b19⟩ | ⟨ho, b0, b1, b2, b3, b4, b5, b6, b7, b8, b9, b10, b11, b12, b13, b14, b15, b16, b17, b18, b19⟩ | ⟨ho, b0, b1, b2, b3, b4, b5, b6, b7, b8, b9, b10, b11, b12, b13, b14, b15, b16, b17, b18, b19⟩ | ⟨ho, b0, b1, b2, b3, b4, b5, b6, b7, b8, b9, b10, b11, b12, b13, b14, b15, b16, b17, b18, b19⟩ | ⟨ho, b0, b1, b2, b3, b4, b5, b6, b7, b8, b9, b10, b11, b12, b13, b14, b15, b16, b17, b18, b19⟩ | ⟨ho, b0, b1, b2, b3, b4, b5, b6, b7, b8, b9, b10, b11, b12, b13, b14, b15, b16, b17, b18, b19⟩ | ⟨ho, b0, b1, b2, b3, b4, b5, b6, b7, b8, b9, b10, b11, b12, b13, b14, b15, b16, b17, b18, b19⟩ | ⟨ho, b0, b1, b2, b3, b4, b5, b6, b7, b8, b9, b10, b11, b12, b13, b14, b15, b16, b17, b18, b19⟩ | ⟨ho, b0, b1, b2, b3, b4, b5, b6, b7, b8, b9, b10, b11, b12, b13, b14, b15, b16, b17, b18, b19⟩ | ⟨ho, b0, b1, b2, b3, b4, b5, b6, b7, b8, b9, b10, b11, b12, b13, b14, b15, b16, b17, b18, b19⟩ | ⟨ho, b0, b1, b2, b3, b4, b5, b6, b7, b8, b9, b10, b11, b12, b13, b14, b15, b16, b17, b18, b19⟩ | ⟨ho, b0, b1, b2, b3, b4, b5, b6, b7, b8, b9, b10, b11, b12, b13, b14, b15, b16, b17, b18, b19⟩ | ⟨ho, b0, b1, b2, b3, b4, b5, b6, b7, b8, b9, b10, b11, b12, b13, b14, b15, b16, b17, b18, b19⟩ | ⟨ho, b0, b1, b2, b3, b4, b5, b6, b7, b8, b9, b10, b11, b12, b13, b14, b15, b16, b17, b18, b19⟩ | ⟨ho, b0, b1, b2, b3, b4, b5, b6, b7, b8, b9, b10, b11, b12, b13, b14, b15, b16, b17, b18, b19⟩ | ⟨ho, b0, b1, b2, b3, b4, b5, b6, b7, b8, b9, b10, b11, b12, b13, b14, b15, b16, b17, b18, b19⟩
  all_goals
    first
      | (have hT : takesT op = some 0 := (by subst ho; decide); rw [hT]; clear ho hT)
      | (have hT : takesT op = some 1 := (by subst ho; decide); rw [hT]; clear ho hT)
      | (have hT : takesT op = some 2 := (by subst ho; decide); rw [hT]; clear ho hT)
      | (rw [takes_none ho]; clear ho)
    generalize tx op = T at *
    go_enter Tryz.func107, Tryz.ntmps107
    go_wp2
    go_ret2
    exact ⟨rfl, rfl⟩
theorem wgiven (k : Nat) (c : Bool) (w : World) : Calls Tryz.prog 108 #[.int .i64 k, .bool c] w fun e w' => e = .returned (.int .i64 (giv k c : Nat)) ∧ w = w' := by
  cases c
  · go_enter Tryz.func108, Tryz.ntmps108
    go_wp2
    go_ret
    exact ⟨rfl, rfl⟩
  · go_enter Tryz.func108, Tryz.ntmps108
    go_wp2
    go_ret
    exact ⟨rfl, rfl⟩
/-- Types in memory. -/
def TyV (w : World) (v : Value) (L : List Nat) : Prop := ∃ x cap, v = .slice x L.length cap ∧ L.length ≤ cap ∧ (x = none → L = []) ∧ ∀ a, x = some a → ∀ i t, L[i]? = some t → w.cell? (a.add i) = some (.int .i64 (t : Nat))
set_option maxHeartbeats 4000000 in
theorem wallT (v : Value) (L : List Nat) (k : Nat) (hL : L.length ≤ 1000000) (w : World) (h : TyV w v L) : Calls Tryz.prog 109 #[v, .int .i64 k] w fun e w' => e = .returned (.bool (allT k L)) ∧ w = w' := by
  obtain ⟨x, cap, rfl, hcap, hx, hc⟩ := h
  have HC := Lib.hid hc
  have HX := Lib.hid hx
  obtain ⟨N, hN⟩ : ∃ N, N = L.length := ⟨_, rfl⟩
  have HN := Lib.hid hN
  rw [← hN] at hL hcap ⊢
  clear hc hx hN
  go_enter Tryz.func109, Tryz.ntmps109
  go_wp2_with fail
  go_loopg [9] N (fun gh i wr => ∃ j : Nat, j + gh = N ∧ i = .int .i64 j ∧ Hid (∀ i, i < j → L.getD i 0 = k) ∧ w = wr)
  case atStart => exact ⟨0, by omega, rfl, Lib.hid (fun i h => by omega), rfl⟩
  case round =>
    obtain ⟨j, hj, rfl, HA, rfl⟩ := hrel
    by_cases q : j < N
    · have hjl : j < L.length := by have := HN.out; omega
      obtain ⟨a, rfl⟩ : ∃ a, x = some a := by
        cases x with
        | none => have := HX.out rfl; rw [this] at hjl; cases hjl
        | some a => exact ⟨a, rfl⟩
      have c0 := HC.out a rfl j L[j] (List.getElem?_eq_getElem hjl)
      have HG : Hid (L.getD j 0 = L[j]) := Lib.hid (by rw [List.getD_eq_getElem?_getD, List.getElem?_eq_getElem hjl]; rfl)
      by_cases q2 : L[j] = k
      · have HA2 : Hid (∀ i, i < j + 1 → L.getD i 0 = k) := Lib.hid (fun i hi => by
          by_cases e : i = j
          · rw [e, HG.out, q2]
          · exact HA.out i (by omega))
        rw [q2] at c0
        clear q2 HG
        go_wp2
        go_roundg (gk - 1)
        case measure => omega
        case rel => exact ⟨j + 1, by omega, by go_num, HA2, rfl⟩
      · have HF : Hid (allT k L = false) := Lib.hid (by
          unfold allT
          rw [List.all_eq_false]
          exact ⟨L[j], List.getElem_mem hjl, by simpa using q2⟩)
        have q3 : ¬ ((L[j] : Nat) : Int) = (k : Int) := by omega
        clear HG
        generalize L[j] = t at c0 q2 q3
        go_wp2
        go_ret
        exact ⟨ret_bool HF.out.symm, rfl⟩
    · have HT : Hid (allT k L = true) := Lib.hid (by
        unfold allT
        rw [List.all_eq_true]
        intro t ht
        obtain ⟨i, hi, rfl⟩ := List.getElem_of_mem ht
        have := HA.out i (by have := HN.out; omega)
        rw [List.getD_eq_getElem?_getD, List.getElem?_eq_getElem hi] at this
        simpa using this)
      go_wp2
      go_ret
      exact ⟨ret_bool HT.out.symm, rfl⟩
end Go.Proofs.YtdomglkcfecnnaaGreat
