/- Walk: Next of the reference; it answers as Next of the program. -/
import Derived.Test.YtdehjofmangmbaaGreatK3
namespace Go.Proofs.YtdehjofmangmbaaGreat
open Go.RowKit Go.Shelf
def nxtR (l : Bs) : Int × Nat × Bool :=
  if lenR (l.getD 0 0).toNat ≤ l.length ∧ 0 < lenR (l.getD 0 0).toNat then (if begR (l.take (lenR (l.getD 0 0).toNat)) = true then (numR (l.take (lenR (l.getD 0 0).toNat)), lenR (l.getD 0 0).toNat, false) else (65533, 1, false))
  else if 0 < lenR (l.getD 0 0).toNat ∧ begR l = true then (0, 0, true) else (65533, 1, false)
theorem BytesAt.take {w : World} {b off : Nat} {l : Bs} (h : BytesAt w b off l) (n : Nat) : BytesAt w b off (l.take n) := fun j hj => by
  have hj2 : j < l.length := by simp at hj; omega
  rw [h j hj2, List.getD_eq_getElem?_getD, List.getD_eq_getElem?_getD, List.getElem?_take_of_lt (by simp at hj; omega)]
theorem take_head {l : Bs} {n : Nat} (hn : 0 < n) : (l.take n).getD 0 0 = l.getD 0 0 := by
  rw [List.getD_eq_getElem?_getD, List.getD_eq_getElem?_getD, List.getElem?_take_of_lt hn]
set_option maxRecDepth 100000 in
set_option maxHeartbeats 4000000 in
theorem rnext (b off cap : Nat) (l : Bs) (hl : l.length ≤ cap) (hl1 : 1 ≤ l.length) (hl2 : l.length ≤ 1000000) (w : World) (h : BytesAt w b off l) (hbl : b < w.heap.size) : Calls Tryz.prog 63 #[.slice (some ⟨b, off, none⟩) l.length cap] w (NextEnd (nxtR l) w) := by
  unfold NextEnd
  have HB := Lib.hid h
  have c0 := h 0 (by omega)
  rw [Nat.add_zero] at c0
  have HLE := Lib.hid (rlength (l.getD 0 0).toNat w)
  obtain ⟨N, hN⟩ : ∃ N, N = lenR (l.getD 0 0).toNat := ⟨_, rfl⟩
  have HV : Hid (nxtR l = if N ≤ l.length ∧ 0 < N then (if begR (l.take N) = true then (numR (l.take N), N, false) else (65533, 1, false)) else if 0 < N ∧ begR l = true then (0, 0, true) else (65533, 1, false)) := Lib.hid (by rw [hN]; rfl)
  have HHD := Lib.hid hN
  rw [← hN] at HLE
  have hN4 : N ≤ 4 := by rw [hN]; exact lenR_le _
  have HBL := Lib.hid (rbegins b off cap l hl hl1 hl2 w h hbl)
  have HBT : Hid (N ≤ l.length → 0 < N → Calls Tryz.prog 94 #[.slice (some ⟨b, off, none⟩) N cap] w fun e w' => e = .returned (.bool (begR (l.take N))) ∧ Below w.heap.size w w') := Lib.hid (fun h1 h2 => by
    have h3 : (l.take N).length = N := by simp; omega
    have h4 := rbegins b off cap (l.take N) (by omega) (by omega) (by omega) w (h.take N) hbl
    rw [h3] at h4
    exact h4)
  have HNT : Hid (N ≤ l.length → 0 < N → ∀ W, Below w.heap.size w W → Calls Tryz.prog 95 #[.slice (some ⟨b, off, none⟩) N cap] W fun e w' => e = .returned (.int .i32 (numR (l.take N))) ∧ Below W.heap.size W w') := Lib.hid (fun h1 h2 W hW => by
    have h3 : (l.take N).length = N := by simp; omega
    have h4 := rnumber b off cap (l.take N) (by omega) (by omega) (by rw [take_head h2, h3]; exact HHD.out.symm) W ((h.take N).kept hbl hW) (by have := hW.size; omega)
    rw [h3] at h4
    exact h4)
  obtain ⟨R, hR⟩ : ∃ R, R = nxtR l := ⟨_, rfl⟩
  rw [← hR] at HV ⊢
  obtain ⟨x, hx⟩ : ∃ x, x = (l.getD 0 0).toNat := ⟨_, rfl⟩
  rw [← hx] at c0 HLE
  obtain ⟨B1, hB1⟩ : ∃ B, B = begR (l.take N) := ⟨_, rfl⟩
  obtain ⟨B2, hB2⟩ : ∃ B, B = begR l := ⟨_, rfl⟩
  obtain ⟨M, hM⟩ : ∃ M, M = numR (l.take N) := ⟨_, rfl⟩
  rw [← hB1] at HBT HV
  rw [← hB2] at HBL HV
  rw [← hM] at HNT HV
  obtain ⟨n, hn⟩ : ∃ n, n = l.length := ⟨_, rfl⟩
  rw [← hn] at hl hl1 HV HBL HBT HNT ⊢
  have i0 : ¬ (n : Int) = 0 := by omega
  have i0' : ((n : Int) == 0) = false := by rw [beq_eq_false_iff_ne]; omega
  have i00 : (0 : Int) < (n : Int) := by omega
  have hc1 : 0 < cap := by omega
  clear h hN hR hx hB1 hB2 hM hn hl2 HB HHD
  by_cases hz : N = 0
  · subst hz
    have HR : Hid (R = (65533, 1, false)) := Lib.hid (by rw [HV.out, if_neg (by omega), if_neg (by omega)])
    clear HV HBL HBT HNT
    go_enter Tryz.func63, Tryz.ntmps63
    go_wp2_with (first | (go_at_call 93; (with_reducible refine HLE.out.mono ?_); rintro e w' ⟨rfl, rfl⟩))
    go_ret3
    rw [HR.out]
    exact ⟨rfl, Below.refl _ _⟩
  · have i1 : (0 : Int) < (N : Int) := by omega
    by_cases hle : N ≤ n
    · have i2 : (N : Int) ≤ (n : Int) := by omega
      have i3 : ¬ (n : Int) < (N : Int) := by omega
      have i4 : (0 : Int) ≤ (N : Int) := by omega
      have i5 : (N : Int) ≤ (cap : Int) := by omega
      have HB3 := Lib.hid (HBT.out hle (by omega))
      have HN3 := Lib.hid (HNT.out hle (by omega))
      have HV2 : Hid (R = if B1 = true then (M, N, false) else (65533, 1, false)) := Lib.hid (by rw [HV.out, if_pos ⟨hle, by omega⟩])
      clear HV HBL HBT HNT hz
      cases B1
      · have HR : Hid (R = (65533, 1, false)) := Lib.hid (by rw [HV2.out, if_neg (by simp)])
        go_enter Tryz.func63, Tryz.ntmps63
        go_wp2_with (first | (go_at_call 93; (with_reducible refine HLE.out.mono ?_); rintro e w' ⟨rfl, rfl⟩) | (go_at_call 94; fail))
        go_at_call 94
        refine HB3.out.mono ?_
        rintro e w1 ⟨rfl, hb1⟩
        have HB1 := Lib.hid hb1
        clear hb1
        go_wp2
        go_ret3
        rw [HR.out]
        exact ⟨rfl, HB1.out⟩
      · have HR : Hid (R = (M, N, false)) := Lib.hid (by rw [HV2.out, if_pos rfl])
        go_enter Tryz.func63, Tryz.ntmps63
        go_wp2_with (first | (go_at_call 93; (with_reducible refine HLE.out.mono ?_); rintro e w' ⟨rfl, rfl⟩) | (go_at_call 94; fail))
        go_at_call 94
        refine HB3.out.mono ?_
        rintro e w1 ⟨rfl, hb1⟩
        have HB1 := Lib.hid hb1
        clear hb1
        go_wp2_with (first | (go_at_call 95; fail))
        go_at_call 95
        refine (HN3.out w1 HB1.out).mono ?_
        rintro e w2 ⟨rfl, hb2⟩
        have HB2 := Lib.hid (HB1.out.trans (below_le hb2 HB1.out.size))
        clear hb2
        go_wp2
        go_ret3
        rw [HR.out]
        exact ⟨rfl, HB2.out⟩
    · have i2 : ¬ (N : Int) ≤ (n : Int) := by omega
      have i3 : (n : Int) < (N : Int) := by omega
      have HV2 : Hid (R = if B2 = true then (0, 0, true) else (65533, 1, false)) := Lib.hid (by rw [HV.out, if_neg (by omega)]; cases B2 <;> simp; omega)
      clear HV HBT HNT hz
      cases B2
      · have HR : Hid (R = (65533, 1, false)) := Lib.hid (by rw [HV2.out, if_neg (by simp)])
        go_enter Tryz.func63, Tryz.ntmps63
        go_wp2_with (first | (go_at_call 93; (with_reducible refine HLE.out.mono ?_); rintro e w' ⟨rfl, rfl⟩) | (go_at_call 94; fail))
        go_at_call 94
        refine HBL.out.mono ?_
        rintro e w1 ⟨rfl, hb1⟩
        have HB1 := Lib.hid hb1
        clear hb1
        go_wp2
        go_ret3
        rw [HR.out]
        exact ⟨rfl, HB1.out⟩
      · have HR : Hid (R = (0, 0, true)) := Lib.hid (by rw [HV2.out, if_pos rfl])
        go_enter Tryz.func63, Tryz.ntmps63
        go_wp2_with (first | (go_at_call 93; (with_reducible refine HLE.out.mono ?_); rintro e w' ⟨rfl, rfl⟩) | (go_at_call 94; fail))
        go_at_call 94
        refine HBL.out.mono ?_
        rintro e w1 ⟨rfl, hb1⟩
        have HB1 := Lib.hid hb1
        clear hb1
        go_wp2
        go_ret3
        rw [HR.out]
        exact ⟨rfl, HB1.out⟩
end Go.Proofs.YtdehjofmangmbaaGreat
