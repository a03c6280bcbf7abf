/- Walks: length, tails, number of the reference. -/
import Derived.Test.YtdehjofmangmbaaGreatK1
namespace Go.Proofs.YtdehjofmangmbaaGreat
open Go.RowKit Go.Shelf
/-- How many bytes a rune has that begins with a byte. -/
def lenR (c : Nat) : Nat := if c < 128 then 1 else if c < 194 then 0 else if c < 224 then 2 else if c < 240 then 3 else if c < 245 then 4 else 0
set_option maxHeartbeats 1000000 in
theorem rlength (c : Nat) (w : World) : Calls Tryz.prog 93 #[.int .u8 c] w fun e w' => e = .returned (.int .i64 (lenR c : Nat)) ∧ w = w' := by
  by_cases h1 : c < 128
  · have HV := Lib.hid (show lenR c = 1 by unfold lenR; rw [if_pos h1])
    have j1 : (c : Int) < 128 := by omega
    go_enter Tryz.func93, Tryz.ntmps93
    go_wp2
    go_ret
    exact ⟨by rw [HV.out]; rfl, rfl⟩
  · have j1 : ¬ (c : Int) < 128 := by omega
    by_cases h2 : c < 194
    · have HV := Lib.hid (show lenR c = 0 by unfold lenR; rw [if_neg h1, if_pos h2])
      have j2 : ¬ (194 : Int) ≤ c := by omega
      have j3 : ¬ (224 : Int) ≤ c := by omega
      have j4 : ¬ (240 : Int) ≤ c := by omega
      go_enter Tryz.func93, Tryz.ntmps93
      go_wp2
      go_ret
      exact ⟨by rw [HV.out]; rfl, rfl⟩
    · have j2 : (194 : Int) ≤ c := by omega
      by_cases h3 : c < 224
      · have HV := Lib.hid (show lenR c = 2 by unfold lenR; rw [if_neg h1, if_neg h2, if_pos h3])
        have j3 : (c : Int) < 224 := by omega
        go_enter Tryz.func93, Tryz.ntmps93
        go_wp2
        go_ret
        exact ⟨by rw [HV.out]; rfl, rfl⟩
      · have j3 : ¬ (c : Int) < 224 := by omega
        have j3b : (224 : Int) ≤ c := by omega
        by_cases h4 : c < 240
        · have HV := Lib.hid (show lenR c = 3 by unfold lenR; rw [if_neg h1, if_neg h2, if_neg h3, if_pos h4])
          have j4 : (c : Int) < 240 := by omega
          go_enter Tryz.func93, Tryz.ntmps93
          go_wp2
          go_ret
          exact ⟨by rw [HV.out]; rfl, rfl⟩
        · have j4 : ¬ (c : Int) < 240 := by omega
          have j4b : (240 : Int) ≤ c := by omega
          by_cases h5 : c < 245
          · have HV := Lib.hid (show lenR c = 4 by unfold lenR; rw [if_neg h1, if_neg h2, if_neg h3, if_neg h4, if_pos h5])
            have j5 : (c : Int) < 245 := by omega
            go_enter Tryz.func93, Tryz.ntmps93
            go_wp2
            go_ret
            exact ⟨by rw [HV.out]; rfl, rfl⟩
          · have HV := Lib.hid (show lenR c = 0 by unfold lenR; rw [if_neg h1, if_neg h2, if_neg h3, if_neg h4, if_neg h5])
            have j5 : ¬ (c : Int) < 245 := by omega
            go_enter Tryz.func93, Tryz.ntmps93
            go_wp2
            go_ret
            exact ⟨by rw [HV.out]; rfl, rfl⟩
/-- A byte behind the first one. -/
def tailB (c : UInt8) : Bool := decide (128 ≤ c.toNat ∧ c.toNat ≤ 191)
def tailsR (l : Bs) : Bool := (l.drop 1).all tailB
theorem tails_no {l : Bs} {j : Nat} (h1 : 1 ≤ j) (hj : j < l.length) (h : tailB (l.getD j 0) = false) : tailsR l = false := by
  unfold tailsR
  rw [List.all_eq_false]
  refine ⟨l.getD j 0, ?_, by rw [h]; simp⟩
  rw [List.getD_eq_getElem?_getD, List.getElem?_eq_getElem hj]
  simp only [Option.getD_some]
  rw [List.mem_iff_getElem]
  exact ⟨j - 1, by simp; omega, by rw [List.getElem_drop]; congr 1; omega⟩
theorem tails_yes {l : Bs} (h : ∀ j, 1 ≤ j → j < l.length → tailB (l.getD j 0) = true) : tailsR l = true := by
  unfold tailsR
  rw [List.all_eq_true]
  intro c hc
  obtain ⟨i, hi, e⟩ := List.mem_iff_getElem.1 hc
  have h1 := h (1 + i) (by omega) (by simp at hi; omega)
  rw [List.getD_eq_getElem?_getD, List.getElem?_eq_getElem (by simp at hi; omega)] at h1
  rw [← e, List.getElem_drop]
  exact h1
set_option maxHeartbeats 1000000 in
theorem rtails (b off cap : Nat) (l : Bs) (hl : l.length ≤ cap) (hl2 : l.length ≤ 1000000) (w : World) (h : BytesAt w b off l) : Calls Tryz.prog 120 #[.slice (some ⟨b, off, none⟩) l.length cap] w fun e w' => e = .returned (.bool (tailsR l)) ∧ w = w' := by
  have HB := Lib.hid h
  obtain ⟨n, hn⟩ : ∃ n, n = l.length := ⟨_, rfl⟩
  have HN := Lib.hid hn
  rw [← hn] at hl hl2 ⊢
  clear h hn
  go_enter Tryz.func120, Tryz.ntmps120
  go_wp2
  go_loopw [3] (fun v wr => ∃ j : Nat, v = .int .i64 (j : Int) ∧ 1 ≤ j ∧ (j ≤ 1 ∨ j ≤ n) ∧ Hid (∀ q, 1 ≤ q → q < j → tailB (l.getD q 0) = true) ∧ w = wr) (fun v _ => n - (intOf v).toNat)
  case atStart => exact ⟨1, rfl, by omega, by omega, Lib.hid (fun q h1 h2 => by omega), rfl⟩
  case round =>
    obtain ⟨j, rfl, hj1, hjn, HT, rfl⟩ := hrel
    by_cases hlt : j < n
    · have c1 := HB.out j (by have := HN.out; omega)
      have i1 : (0 : Int) ≤ (j : Int) := by omega
      have i2 : (j : Int) < (n : Int) := by omega
      have i3 : j < cap := by omega
      obtain ⟨x, hx⟩ : ∃ x, x = (l.getD j 0).toNat := ⟨_, rfl⟩
      have HX : Hid (tailB (l.getD j 0) = decide (128 ≤ x ∧ x ≤ 191)) := Lib.hid (by rw [hx]; rfl)
      rw [← hx] at c1
      clear hx
      by_cases h1 : x < 128
      · have t1 : (x : Int) < 128 := by omega
        have HR := Lib.hid (tails_no (l := l) hj1 (by have := HN.out; omega) (by rw [HX.out, decide_eq_false_iff_not]; omega))
        go_wp2
        go_ret
        exact ⟨by rw [HR.out]; rfl, rfl⟩
      · have t1 : ¬ (x : Int) < 128 := by omega
        by_cases h2 : x ≤ 191
        · have t2 : ¬ (191 : Int) < (x : Int) := by omega
          go_wp2
          go_roundw
          case rel => exact ⟨j + 1, by go_num, by omega, by omega, Lib.hid (fun q q1 q2 => by
            by_cases e : q = j
            · rw [e, HX.out, decide_eq_true_iff]; omega
            · exact HT.out q q1 (by omega)), by trivial⟩
          case measure => simp [intOf]; omega
        · have t2 : (191 : Int) < (x : Int) := by omega
          have HR := Lib.hid (tails_no (l := l) hj1 (by have := HN.out; omega) (by rw [HX.out, decide_eq_false_iff_not]; omega))
          go_wp2
          go_ret
          exact ⟨by rw [HR.out]; rfl, rfl⟩
    · have i2 : ¬ (j : Int) < (n : Int) := by omega
      have HR := Lib.hid (tails_yes (fun q q1 q2 => HT.out q q1 (by have := HN.out; omega)))
      go_wp2
      go_ret
      exact ⟨by rw [HR.out]; rfl, rfl⟩
def hdR (n : Nat) : Int := if n = 2 then 192 else if n = 3 then 224 else if n = 4 then 240 else 0
/-- The number behind so many bytes behind the first one. -/
def numP (l : Bs) (n : Nat) : Nat → Int
  | 0 => ((l.getD 0 0).toNat : Int) - hdR n
  | i + 1 => numP l n i * 64 + ((l.getD (i + 1) 0).toNat % 64 : Nat)
def numR (l : Bs) : Int := if l.length < 2 then ((l.getD 0 0).toNat : Int) else numP l l.length (l.length - 1)
theorem lenR_bd {c n : Nat} (h : lenR c = n) (h2 : 2 ≤ n) : n ≤ 4 ∧ 0 ≤ (c : Int) - hdR n ∧ (c : Int) - hdR n < 32 ∧ hdR n ≤ c ∧ 0 ≤ hdR n := by
  unfold lenR at h
  unfold hdR
  split at h
  · omega
  · split at h
    · omega
    · split at h
      · subst h; simp; omega
      · split at h
        · subst h; simp; omega
        · split at h
          · subst h; simp; omega
          · omega
theorem numP_bd {l : Bs} {n : Nat} (h : lenR (l.getD 0 0).toNat = n) (h2 : 2 ≤ n) : 0 ≤ numP l n 0 ∧ numP l n 0 < 32 ∧ 0 ≤ numP l n 1 ∧ numP l n 1 < 2048 ∧ 0 ≤ numP l n 2 ∧ numP l n 2 < 131072 ∧ 0 ≤ numP l n 3 ∧ numP l n 3 < 8388608 := by
  obtain ⟨_, h1, h3, _⟩ := lenR_bd h h2
  have e0 : numP l n 0 = ((l.getD 0 0).toNat : Int) - hdR n := rfl
  have e1 : numP l n 1 = numP l n 0 * 64 + ((l.getD 1 0).toNat % 64 : Nat) := rfl
  have e2 : numP l n 2 = numP l n 1 * 64 + ((l.getD 2 0).toNat % 64 : Nat) := rfl
  have e3 : numP l n 3 = numP l n 2 * 64 + ((l.getD 3 0).toNat % 64 : Nat) := rfl
  omega
theorem numP_bd' {l : Bs} {n : Nat} (h : lenR (l.getD 0 0).toNat = n) (h2 : 2 ≤ n) (i : Nat) (hi : i ≤ 3) : 0 ≤ numP l n i ∧ numP l n i < 8388608 := by
  have := numP_bd h h2
  match i, hi with
  | 0, _ => omega
  | 1, _ => omega
  | 2, _ => omega
  | 3, _ => omega
set_option maxRecDepth 100000 in
set_option maxHeartbeats 2000000 in
theorem rnumber (b off cap : Nat) (l : Bs) (hl : l.length ≤ cap) (hl1 : 1 ≤ l.length) (hlen : lenR (l.getD 0 0).toNat = l.length) (w : World) (h : BytesAt w b off l) (hbl : b < w.heap.size) : Calls Tryz.prog 95 #[.slice (some ⟨b, off, none⟩) l.length cap] w fun e w' => e = .returned (.int .i32 (numR l)) ∧ Below w.heap.size w w' := by
  have HB := Lib.hid h
  have c0 := h 0 (by omega)
  rw [Nat.add_zero] at c0
  have hx8 : (l.getD 0 0).toNat < 256 := UInt8.toNat_lt _
  by_cases h2 : l.length < 2
  · have h1 : l.length = 1 := by omega
    have HV : Hid (numR l = ((l.getD 0 0).toNat : Int)) := Lib.hid (by unfold numR; rw [if_pos h2])
    rw [h1] at hl ⊢
    obtain ⟨x, hx⟩ : ∃ x, x = (l.getD 0 0).toNat := ⟨_, rfl⟩
    rw [← hx] at c0 HV hx8
    clear hx h hlen h1 h2 HB hl1
    go_enter Tryz.func95, Tryz.ntmps95
    go_wp2
    go_ret
    exact ⟨by rw [HV.out]; rfl, (Below.refl _ _).alloc (Nat.le_refl _) _⟩
  · have h2' : 2 ≤ l.length := by omega
    obtain ⟨q1, q2, q3, q4, q5⟩ := lenR_bd hlen h2'
    have HBD := Lib.hid (fun i hi => numP_bd' hlen h2' i hi)
    have HV : Hid (numR l = numP l l.length (l.length - 1)) := Lib.hid (by unfold numR; rw [if_neg h2])
    have hcell : ∀ W : World, Below w.heap.size (w.alloc (.cells #[.int .i64 0, .int .i64 0, .int .i64 192, .int .i64 224, .int .i64 240] 3)) W → True := fun _ _ => trivial
    clear hcell
    have hh : (w.alloc (.cells #[.int .i64 0, .int .i64 0, .int .i64 192, .int .i64 224, .int .i64 240] 3)).cell? ⟨w.heap.size, l.length, none⟩ = some (.int .i64 (hdR l.length)) := by
      have h3 : l.length = 2 ∨ l.length = 3 ∨ l.length = 4 := by omega
      rcases h3 with e | e | e <;> rw [e] <;> simp [go_sem, hdR]
    obtain ⟨n, hn⟩ : ∃ n, n = l.length := ⟨_, rfl⟩
    have HN := Lib.hid hn
    rw [← hn] at hl q1 q2 q3 q4 q5 HBD HV hh h2' ⊢
    obtain ⟨x, hx⟩ : ∃ x, x = (l.getD 0 0).toNat := ⟨_, rfl⟩
    have HX := Lib.hid hx
    rw [← hx] at c0 hx8 q2 q3 q4
    obtain ⟨H, hH⟩ : ∃ H, H = hdR n := ⟨_, rfl⟩
    have HH := Lib.hid hH
    rw [← hH] at q2 q3 q4 q5 hh
    have i1 : (2 : Int) ≤ (n : Int) := by omega
    have i2 : (n : Int) ≤ 4 := by omega
    have i3 : (0 : Int) ≤ (n : Int) := by omega
    have i4 : ¬ (n : Int) < 2 := by omega
    have i5 : ¬ 4 < (n : Int) := by omega
    have hn1 : n < 5 := by omega
    have hc1 : 0 < cap := by omega
    clear hx hH h hlen h2 hn hl1 h2'
    go_enter Tryz.func95, Tryz.ntmps95
    go_wp2
    go_quiet (fail)
    go_wp2
    have HP0 : Hid ((x : Int) - H = numP l n 0) := Lib.hid (by rw [HX.out, HH.out]; rfl)
    go_loopw [4, 5] (fun v4 v5 wr => ∃ i : Nat, v4 = .int .i32 (numP l n i) ∧ v5 = .int .i64 ((i + 1 : Nat) : Int) ∧ i + 1 ≤ n ∧ Hid (∃ m, wr = (w.alloc (.cells #[.int .i64 0, .int .i64 0, .int .i64 192, .int .i64 224, .int .i64 240] 3)).drewN m)) (fun _ v5 _ => n - (intOf v5).toNat)
    case atStart => exact ⟨0, by rw [HP0.out], rfl, by omega, Lib.hid ⟨nq, rfl⟩⟩
    case round =>
      obtain ⟨i, rfl, rfl, hin, HW⟩ := hrel
      by_cases hlt : i + 1 < n
      · have c1 : wr.cell? ⟨b, off + (i + 1), none⟩ = some (.int .u8 (l.getD (i + 1) 0).toNat) := by
          obtain ⟨m, rfl⟩ := HW.out
          have := HB.out (i + 1) (by have := HN.out; omega)
          have hb1 : (w.alloc (.cells #[.int .i64 0, .int .i64 0, .int .i64 192, .int .i64 224, .int .i64 240] 3)).cell? ⟨b, off + (i + 1), none⟩ = w.cell? ⟨b, off + (i + 1), none⟩ := ((Below.refl w.heap.size w).alloc (Nat.le_refl _) _).cell (p := ⟨b, off + (i + 1), none⟩) hbl
          simpa [go_sem] using hb1.trans this
        obtain ⟨p1, p2⟩ := HBD.out i (by omega)
        obtain ⟨p3, p4⟩ := HBD.out (i + 1) (by omega)
        obtain ⟨y, hy⟩ : ∃ y, y = (l.getD (i + 1) 0).toNat := ⟨_, rfl⟩
        have hy8 : y < 256 := by rw [hy]; exact UInt8.toNat_lt _
        obtain ⟨M, hM⟩ : ∃ M : Nat, M = y % 64 := ⟨_, rfl⟩
        have hP1 : numP l n (i + 1) = numP l n i * 64 + (M : Int) := by rw [hM, hy]; rfl
        obtain ⟨P, hP⟩ : ∃ P, P = numP l n i := ⟨_, rfl⟩
        rw [← hP] at p1 p2 hP1 ⊢
        rw [hP1] at p3 p4
        have HP1 := Lib.hid hP1
        rw [← hy] at c1
        have r1 : (y : Int).tmod 64 = (M : Int) := by rw [Int.tmod_eq_emod_of_nonneg (by omega), hM]; omega
        have g1 : (0 : Int) ≤ (i : Int) + 1 := by omega
        have g2 : (i : Int) + 1 < (n : Int) := by omega
        have g3 : i + 1 < cap := by omega
        have g4 : ((i : Int) + 1).toNat = i + 1 := by omega
        have m1 : M < 64 := by omega
        have e1 : ((i + 1 : Nat) : Int) = (i : Int) + 1 := by omega
        rw [e1]
        clear hy hM hP hP1 e1
        go_wp2
        go_roundw
        case rel => exact ⟨i + 1, by rw [HP1.out], by go_num, by omega, HW⟩
        case measure => simp [intOf]; omega
      · have hi1 : i = n - 1 := by omega
        have HE : Hid (numP l n i = numR l) := Lib.hid (by rw [HV.out, hi1])
        have g2 : ¬ ((i + 1 : Nat) : Int) < (n : Int) := by omega
        rw [HE.out]
        clear hi1
        go_wp2
        go_ret
        obtain ⟨m, rfl⟩ := HW.out
        exact ⟨rfl, below_drewN ((Below.refl _ _).alloc (Nat.le_refl _) _) m⟩
end Go.Proofs.YtdehjofmangmbaaGreat
