/- Rows of numbers: the first sixty, and num.Sort. -/
import Derived.Test.YtepjdnokkgmhoaaZF
import Derived.Test.YtepjdnokkgmhoaaD10
namespace Go.Proofs.Ytepjdnokkgmhoaa
open Go.RowKit Go.Sort Go.Shelf
/-- A row of numbers in memory, wherever it begins. -/
def RowF (w : World) (x : Option Addr) (L : List Nat) : Prop := 0 < L.length → ∃ b off, x = some ⟨b, off, none⟩ ∧ b < w.heap.size ∧ ∀ i, i < L.length → w.cell? ⟨b, off + i, none⟩ = some (.float .f64 (L.getD i 0))
theorem RowF.keep {w w' : World} {x : Option Addr} {L : List Nat} (h : RowF w x L) (hB : Below w.heap.size w w') : RowF w' x L := fun hp => by
  obtain ⟨b, off, rfl, hb, hc⟩ := h hp
  exact ⟨b, off, rfl, Nat.lt_of_lt_of_le hb hB.size, fun i hi => (hB.cell (p := ⟨b, off + i, none⟩) hb).trans (hc i hi)⟩
def fV (x : Nat) : Value := .float .f64 x
/-- The cells of a row that a call owns. -/
theorem own_cell {w : World} {base n cap : Nat} {e : TypeId} {x : Option Addr} {xs : List Value} (h : w.ownsRow base e 1 (.slice x n cap) n xs) (hp : 0 < n) :
    ∃ g, x = some ⟨g, 0, none⟩ ∧ g < w.heap.size ∧ ∀ i, i < n → w.cell? ⟨g, i, none⟩ = xs[i]? := by
  have h' := h
  rcases h.2 with ⟨hv, h0⟩ | ⟨g, cp, cur, hv, hb, hg, hnc, hcm, hcs, htake⟩
  · omega
  · cases hv
    exact ⟨g, rfl, (Array.getElem?_eq_some_iff.1 hg).1, fun i hi => h'.cellAt i (by omega)⟩
theorem rowF_of_own {w : World} {base cap : Nat} {x : Option Addr} {L : List Nat} (h : w.ownsRow base 22 1 (.slice x L.length cap) L.length (L.map fV)) : RowF w x L := fun hp => by
  obtain ⟨g, rfl, hg, hc⟩ := own_cell h hp
  refine ⟨g, 0, rfl, hg, fun i hi => ?_⟩
  rw [Nat.zero_add, hc i hi]
  simp [fV, hi]
theorem sees_of_row {w : World} {base cap : Nat} {x : Option Addr} {L : List Nat} (h : w.ownsRow base 22 1 (.slice x L.length cap) L.length (L.map fV)) : SeesF w x L.length (fun i => L.getD i 0) := fun hp => by
  obtain ⟨g, rfl, hg, hc⟩ := own_cell h hp
  refine ⟨g, rfl, fun i hi => ?_⟩
  rw [hc i hi]
  simp [fV, hi]
theorem Try.info44 : (Try.prog.info? 44).map (fun i => (i.zero, i.size, i.bytes)) = some (some (.int .u64 0), 1, 8) := by kernel_rfl
theorem info_parts44 : ∃ i0, Try.prog.info? 44 = some i0 ∧ i0.zero = some (.int .u64 0) ∧ i0.size = 1 ∧ i0.bytes = 8 := by
  have h := Try.info44
  cases hi : Try.prog.info? 44 with
  | none => rw [hi] at h; cases h
  | some i0 =>
    rw [hi] at h
    simp only [Option.map_some, Option.some.injEq, Prod.mk.injEq] at h
    exact ⟨i0, rfl, h.1, h.2.1, h.2.2⟩
/-- What a call answers with: a row of numbers of its own. -/
def GivesF (w : World) (L : List Nat) (e : Ending) (w' : World) : Prop := ∃ x cap, e = .returned (.slice x L.length cap) ∧ (∃ base, w.heap.size ≤ base ∧ w'.ownsRow base 22 1 (.slice x L.length cap) L.length (L.map fV)) ∧ Below w.heap.size w w'
theorem take_snoc (L : List Nat) (k : Nat) (h : k < L.length) : L.take (k + 1) = L.take k ++ [L.getD k 0] := by
  rw [List.take_succ_eq_append_getElem h]
  simp [h]
set_option maxHeartbeats 2000000 in
theorem tfew (x : Option Addr) (cap : Nat) (L : List Nat) (w : World) (hx : RowF w x L) (hm : L.length ≤ 9223372036854775807) : Calls Try.prog 37 #[.slice x L.length cap] w (GivesF w (L.take 60)) := by
  obtain ⟨i0, hi0, hz0, hz1, hz2⟩ := info_parts22
  have HI := Lib.hid hi0
  have HZ0 := Lib.hid hz0
  have HZ1 := Lib.hid hz1
  have HZ2 := Lib.hid hz2
  have HX := Lib.hid hx
  obtain ⟨n, hn⟩ : ∃ n, L.length = n := ⟨_, rfl⟩
  have HN := Lib.hid hn
  rw [hn] at hm ⊢
  clear hx hn hi0 hz0 hz1 hz2
  go_enter Try.func37, Try.ntmps37
  go_wp2_with fail
  go_loopw [3, 4] (fun v i wr => ∃ k : Nat, k ≤ n ∧ k ≤ 60 ∧ i = .int .i64 (k : Int) ∧ Hid (wr.ownsRow w.heap.size 22 1 v k ((L.take k).map fV)) ∧ Hid (Below w.heap.size w wr)) (fun _ i _ => n - (intOf i).toNat)
  case atStart => exact ⟨0, by omega, by omega, rfl, Lib.hid (World.ownsRow_nil _ _ _ _), Lib.hid (Below.refl _ _)⟩
  case round =>
    obtain ⟨k, hk, hk2, rfl, HO, HB⟩ := hrel
    by_cases hlt : k < n ∧ k < 60
    · obtain ⟨h1, h2⟩ := hlt
      have h1z : (k : Int) < (n : Int) := by omega
      have h2z : (k : Int) < 60 := by omega
      have hsz := HB.out.size
      obtain ⟨b, off, rfl, hb, hc⟩ := HX.out (by rw [HN.out]; omega)
      have hck : wr.cell? ⟨b, off + k, none⟩ = some (.float .f64 (L.getD k 0)) := (HB.out.cell (p := ⟨b, off + k, none⟩) hb).trans (hc k (by rw [HN.out]; omega))
      obtain ⟨X, hX⟩ : ∃ X, X = L.getD k 0 := ⟨_, rfl⟩
      rw [← hX] at hck
      have HE := Lib.hid hX
      clear hc hX
      go_wp2_with (first | (at_builtin; go_loud (refine wpList_append_own _ rfl _ _ 38 rfl w.heap.size 22 i0 (.float .f64 0) 1 8 Try.underlying38 HI.out HZ0.out HZ1.out HZ2.out rfl (by decide) _ _ _ rfl (HO.out.alloc _) ⟨wr.heap.size, 0, none⟩ 1 1 [.float .f64 X] rfl rfl (cell_one_new _ _ _) (by intro u hu; simp at hu; subst hu; rfl) (by unfold maxLen; omega) (by omega) (by simp; omega) ?_); intro v1 w1 hown1 hgrow1 hnil1; have HO1 := Lib.hid hown1; have HG1 := Lib.hid hgrow1; clear hown1 hgrow1 hnil1))
      have HX2 := Lib.hid (((HB.out.alloc hsz (.cells #[.float .f64 X] 22)).grown HG1.out (by simp; omega) (fun j hj => (HO.out.lt j hj).1)))
      have HY : Hid (w1.ownsRow w.heap.size 22 1 v1 (k + 1) ((L.take (k + 1)).map fV)) := Lib.hid (by rw [take_snoc L k (by rw [HN.out]; omega), List.map_append, ← HE.out]; exact HO1.out)
      go_roundw
      case rel => exact ⟨k + 1, by omega, by omega, by go_num, HY, HX2⟩
      case measure => simp [intOf]; omega
    · have HLT := Lib.hid hlt
      obtain ⟨x1, c1, rfl⟩ := owns_slice HO.out
      have e1 : L.take k = L.take 60 := by
        have := HN.out
        rcases Nat.lt_or_ge k 60 with q | q
        · rw [List.take_of_length_le (by omega), List.take_of_length_le (by omega)]
        · rw [show k = 60 by omega]
      have e2 : (L.take 60).length = k := by have := HN.out; rw [List.length_take]; omega
      have hfin : GivesF w (L.take 60) (.returned (.slice x1 k c1)) wr := by
        refine ⟨x1, c1, by rw [e2], ⟨w.heap.size, Nat.le_refl _, ?_⟩, HB.out⟩
        rw [e2, ← e1]; exact HO.out
      have HF := Lib.hid hfin
      clear hfin e1 e2 hlt
      by_cases q : k < n
      · have qz : (k : Int) < (n : Int) := by omega
        have q2 : ¬ (k : Int) < 60 := by have := HLT.out; omega
        go_wp2_with fail
        go_ret
        exact HF.out
      · have qz : ¬ (k : Int) < (n : Int) := by omega
        go_wp2_with fail
        go_ret
        exact HF.out
end Go.Proofs.Ytepjdnokkgmhoaa
