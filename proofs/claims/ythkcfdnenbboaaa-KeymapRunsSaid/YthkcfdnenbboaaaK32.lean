/- The reference's bindings: rows of names and acts; walk: place. -/
import Derived.Test.YthkcfdnenbboaaaK31
namespace Go.Proofs.Ythkcfdnenbboaaa
open Go.RowKit Go.Shelf Go.Maps Go.Sort Go.ChangeMaps
abbrev Bd := ByteArray × Int
def bz : Bd := (ByteArray.empty, 0)
def bn (L : List Bd) (i : Nat) : Bd := L.getD i bz
/-- A slice of bindings. -/
def RowB (w : World) (x : Option Addr) (n cap : Nat) (L : List Bd) : Prop :=
  n = L.length ∧ n ≤ cap ∧ ((x = none ∧ cap = 0) ∨ ∃ g, x = some ⟨g, 0, none⟩ ∧ g < w.heap.size ∧ ∀ i, i < n → w.cell? ⟨g, i * 2, none⟩ = some (.string (bn L i).1) ∧ w.cell? ⟨g, i * 2 + 1, none⟩ = some (.int .i64 (bn L i).2))
theorem RowB.below {w w' : World} {x : Option Addr} {n cap : Nat} {L : List Bd} (h : RowB w x n cap L) (hb : Below w.heap.size w w') : RowB w' x n cap L := by
  obtain ⟨h1, h2, h3⟩ := h
  refine ⟨h1, h2, h3.imp id ?_⟩
  rintro ⟨g, rfl, hg, hc⟩
  exact ⟨g, rfl, by have := hb.size; omega, fun i hi => ⟨(hb.cell (p := ⟨g, i * 2, none⟩) hg).trans (hc i hi).1, (hb.cell (p := ⟨g, i * 2 + 1, none⟩) hg).trans (hc i hi).2⟩⟩
theorem RowB.cells {w : World} {x : Option Addr} {n cap : Nat} {L : List Bd} (h : RowB w x n cap L) {i : Nat} (hi : i < n) : ∃ g, x = some ⟨g, 0, none⟩ ∧ g < w.heap.size ∧ w.cell? ⟨g, i * 2, none⟩ = some (.string (bn L i).1) ∧ w.cell? ⟨g, i * 2 + 1, none⟩ = some (.int .i64 (bn L i).2) := by
  obtain ⟨h1, h2, h3 | ⟨g, rfl, hg, hc⟩⟩ := h
  · omega
  · exact ⟨g, rfl, hg, (hc i hi).1, (hc i hi).2⟩
/-- The place of a name. -/
def plc : List Bd → ByteArray → Nat
  | [], _ => 0
  | b :: L, s => if ltS b.1 s then plc L s + 1 else 0
theorem plc_le (L : List Bd) (s : ByteArray) : plc L s ≤ L.length := by
  induction L with
  | nil => simp [plc]
  | cons b L ih => simp only [plc]; split <;> simp <;> omega
theorem plc_at (L : List Bd) (s : ByteArray) (h : plc L s < L.length) : ltS (bn L (plc L s)).1 s = false := by
  induction L with
  | nil => simp at h
  | cons b L ih =>
    simp only [plc] at h ⊢
    split
    · rename_i q
      rw [if_pos q] at h
      have := ih (by simp at h; omega)
      simpa [bn] using this
    · rename_i q; simpa [bn] using q
theorem plc_before (L : List Bd) (s : ByteArray) (i : Nat) (h : i < plc L s) : ltS (bn L i).1 s = true := by
  induction L generalizing i with
  | nil => simp [plc] at h
  | cons b L ih =>
    simp only [plc] at h
    split at h
    · rename_i q
      cases i with
      | zero => simpa [bn] using q
      | succ i => simpa [bn] using ih i (by omega)
    · omega
theorem plc_eq (L : List Bd) (s : ByteArray) (i : Nat) (hi : i ≤ L.length) (h1 : ∀ j, j < i → ltS (bn L j).1 s = true) (h2 : i = L.length ∨ ltS (bn L i).1 s = false) : plc L s = i := by
  rcases Nat.lt_trichotomy (plc L s) i with q | q | q
  · have := plc_at L s (by omega); rw [h1 _ q] at this; cases this
  · exact q
  · rcases h2 with h2 | h2
    · have := plc_le L s; omega
    · have := plc_before L s i q; rw [h2] at this; cases this
/-- Is a name there? -/
def isAt (L : List Bd) (s : ByteArray) : Bool := decide (plc L s < L.length) && decide ((bn L (plc L s)).1 = s)
def Sized (L : List Bd) : Prop := ∀ i, i < L.length → (bn L i).1.size ≤ maxLen
theorem ext_lt {p : Nat → Prop} {k : Nat} (h : ∀ j, j < k → p j) (hk : p k) : ∀ j, j < k + 1 → p j := fun j hj => by
  by_cases e : j = k
  · rw [e]; exact hk
  · exact h j (by omega)
set_option maxRecDepth 100000 in
set_option maxHeartbeats 4000000 in
theorem wplace {w : World} {x : Option Addr} {n cap : Nat} {L : List Bd} (h : RowB w x n cap L) (hz : Sized L) (hn : n ≤ 100000) (s : ByteArray) (hs : s.size ≤ maxLen) :
    Calls Try.prog 51 #[.agg #[.slice x n cap], .string s] w fun e w' => e = .returned (.tuple #[.int .i64 (plc L s : Nat), .bool (isAt L s)]) ∧ Below w.heap.size w w' := by
  have HR := Lib.hid h
  have HZ := Lib.hid hz
  have HSS := Lib.hid hs
  have HL := Lib.hid h.1
  clear h hz hs
  go_enter Try.func51, Try.ntmps51
  go_wp2_with fail
  have HB0 := Lib.hid ((Below.refl w.heap.size w).alloc (Nat.le_refl _) (.cells #[.slice x n cap] 44))
  have hbx : Hid (Boxed (w.alloc (.cells #[.slice x n cap] 44)) w.heap.size 44 (.slice x n cap)) := Lib.hid (Boxed.new w 44 (.slice x n cap))
  go_loopg [6] (n + 1) (fun gh i wr => ∃ k : Nat, k + gh = n + 1 ∧ k ≤ n ∧ i = .int .i64 k ∧ Hid (∀ j, j < k → ltS (bn L j).1 s = true) ∧ Hid (Boxed wr w.heap.size 44 (.slice x n cap)) ∧ Hid (Below w.heap.size w wr))
  case atStart => exact ⟨0, by omega, by omega, rfl, Lib.hid (fun j hj => by omega), hbx, HB0⟩
  case round =>
    clear HB0 hbx
    obtain ⟨k, hk, hkn, rfl, HJ, HX, HB⟩ := hrel
    have hx := HX.out.cell
    by_cases q1 : k < n
    · obtain ⟨g, rfl, hg, hc1, hc2⟩ := (HR.out.below HB.out).cells q1
      have HW := Lib.hid (fun W => wless (bn L k).1 s (HZ.out k (by rw [← HL.out]; exact q1)) HSS.out W)
      have HG := Lib.hid hg
      cases hlt : ltS (bn L k).1 s
      · have HE := Lib.hid (plc_eq L s k (by rw [← HL.out]; exact hkn) HJ.out (.inr hlt))
        rw [hlt] at HW
        clear hlt hc2 hg
        go_wp2_with (first | (go_at_call 58; fail))
        go_at_call 58
        refine (HW.out _).mono ?_
        rintro e w2 ⟨rfl, hb⟩
        have hx2 : w2.cell? ⟨w.heap.size, 0, none⟩ = some (.slice (some ⟨g, 0, none⟩) n cap) := (hb.cell (p := ⟨w.heap.size, 0, none⟩) HX.out.lt).trans HX.out.cell
        have hc3 := (hb.cell (p := ⟨g, k * 2, none⟩) HG.out).trans hc1
        have HB2 := Lib.hid (HB.out.trans (below_le hb HB.out.size))
        have HC := Lib.hid hc1
        clear hb hx hc1
        have g1 : decide (k < n) = true := decide_eq_true q1
        obtain ⟨B, hB⟩ : ∃ B, ((bn L k).1.toList == s.toList) = B := ⟨_, rfl⟩
        have HBB := Lib.hid hB
        go_wp2_with fail
        go_quiet (fail)
        go_wp2
        go_ret2
        have e2 : isAt L s = B := by
          rw [isAt, HE.out, ← HBB.out, beq_bytes, decide_eq_true (show k < L.length by rw [← HL.out]; exact q1), Bool.true_and]
        exact ⟨by rw [e2, HE.out]; rfl, below_drewN HB2.out _⟩
      · rw [hlt] at HW
        have HJ2 := Lib.hid hlt
        clear hlt hc2 hg
        go_wp2_with (first | (go_at_call 58; fail))
        go_at_call 58
        refine (HW.out _).mono ?_
        rintro e w2 ⟨rfl, hb⟩
        have HX2 : Hid (Boxed w2 w.heap.size 44 (.slice (some ⟨g, 0, none⟩) n cap)) := Lib.hid ((hb.block _ HX.out.lt).trans HX.out)
        have HB2 := Lib.hid (HB.out.trans (below_le hb HB.out.size))
        clear hb hx hc1
        go_wp2
        go_roundg (gk - 1)
        case measure => omega
        case rel => exact ⟨k + 1, by omega, by omega, by go_num, Lib.hid (ext_lt (p := fun j => ltS (bn L j).1 s = true) HJ.out HJ2.out), HX2, HB2⟩
    · have hkn2 : k = n := by omega
      have HE := Lib.hid (plc_eq L s k (by rw [← HL.out]; exact hkn) HJ.out (.inl (by rw [← HL.out]; exact hkn2)))
      have g1 : decide (k < n) = false := decide_eq_false q1
      have HQ := Lib.hid q1
      clear hkn2
      go_wp2_with fail
      go_quiet (fail)
      go_wp2
      go_ret2
      have e2 : isAt L s = false := by
        rw [isAt, HE.out, decide_eq_false (show ¬ k < L.length by rw [← HL.out]; exact HQ.out), Bool.false_and]
      exact ⟨by rw [e2, HE.out]; rfl, below_drewN HB.out _⟩
end Go.Proofs.Ythkcfdnenbboaaa
