/- Walk: next. -/
import Derived.Test.YtbaljpamhmbcjaaGreatHM
namespace Go.Proofs.YtbaljpamhmbcjaaGreat
open Go.RowKit Go.Shelf
/-- Is the line of a place told? -/
def toldAt (L : List Bs) (d bg : Bs) (j : Nat) : Bool := toldB (L.getD j []) d bg
/-- The next place from one on. -/
def nxU (L : List Bs) (d bg : Bs) (s : Nat) : Option Nat := (List.range L.length).find? (fun j => decide (s ≤ j) && toldAt L d bg j)
/-- The last place ahead of one. -/
def nxD (L : List Bs) (d bg : Bs) (s : Nat) : Option Nat := ((List.range s).find? (fun k => toldAt L d bg (s - 1 - k))).map (fun k => s - 1 - k)
theorem nxU_some {L : List Bs} {d bg : Bs} {s i : Nat} (hi : i < L.length) (ht : toldAt L d bg i = true) (hs : s ≤ i) (hn : ∀ j, s ≤ j → j < i → toldAt L d bg j = false) : nxU L d bg s = some i := by
  unfold nxU
  rw [List.find?_range_eq_some]
  refine ⟨by simp [hs, ht], by simpa using hi, fun j hj => ?_⟩
  by_cases h : s ≤ j
  · simp [hn j h hj]
  · simp [h]
theorem nxU_none {L : List Bs} {d bg : Bs} {s : Nat} (hn : ∀ j, s ≤ j → j < L.length → toldAt L d bg j = false) : nxU L d bg s = none := by
  unfold nxU
  rw [List.find?_range_eq_none]
  intro j hj
  by_cases h : s ≤ j
  · simp [hn j h hj]
  · simp [h]
theorem nxD_some {L : List Bs} {d bg : Bs} {s i : Nat} (hs : i < s) (ht : toldAt L d bg i = true) (hn : ∀ j, i < j → j < s → toldAt L d bg j = false) : nxD L d bg s = some i := by
  unfold nxD
  have : (List.range s).find? (fun k => toldAt L d bg (s - 1 - k)) = some (s - 1 - i) := by
    rw [List.find?_range_eq_some]
    refine ⟨by rw [show s - 1 - (s - 1 - i) = i by omega]; exact ht, by simp; omega, fun j hj => ?_⟩
    simp [hn (s - 1 - j) (by omega) (by omega)]
  rw [this]
  simp
  omega
theorem nxD_none {L : List Bs} {d bg : Bs} {s : Nat} (hn : ∀ j, j < s → toldAt L d bg j = false) : nxD L d bg s = none := by
  unfold nxD
  have : (List.range s).find? (fun k => toldAt L d bg (s - 1 - k)) = none := by
    rw [List.find?_range_eq_none]
    intro j hj
    simp [hn (s - 1 - j) (by omega)]
  rw [this]
  rfl
def wkV (k : Wk) : Value := .agg #[.bool k.on, .string (tx k.d), .string (tx k.bg), .int .i64 k.at_]
def nxE (r : Option Nat) : Ending := .returned (.tuple #[.int .i64 ((r.getD 0 : Nat) : Int), .bool r.isSome])
set_option maxHeartbeats 1000000 in
theorem wnextU (b : Nat) (m : Int) (L : List Bs) (k0 k : Wk) (x : Option Addr) (c : Nat) (hL : L.length ≤ 1000) (s : Nat) (hs : s ≤ 1000) (hk : k.at_ = (s : Int) - 1) (w : World) (h : His w b m L k0 x c) :
    Calls Tryz.prog 40 #[.pointer (some ⟨b, 0, none⟩), wkV k, .int .i64 1] w fun e w' => e = nxE (nxU L k.d k.bg s) ∧ Below w.heap.size w w' := by
  obtain ⟨kon, kd, kb, ka⟩ := k
  simp only at hk
  subst hk
  unfold wkV
  simp only
  have HB := Lib.hid ((Below.refl w.heap.size w).alloc (Nat.le_refl _) (.cells #[.bool kon, .string (tx kd), .string (tx kb), .int .i64 ((s : Int) - 1)] 43))
  have HH := Lib.hid (h.below HB.out)
  have q1 : (w.alloc (.cells #[.bool kon, .string (tx kd), .string (tx kb), .int .i64 ((s : Int) - 1)] 43)).cell? ⟨w.heap.size, 1, none⟩ = some (.string (tx kd)) := by simp [go_sem]
  have q2 : (w.alloc (.cells #[.bool kon, .string (tx kd), .string (tx kb), .int .i64 ((s : Int) - 1)] 43)).cell? ⟨w.heap.size, 2, none⟩ = some (.string (tx kb)) := by simp [go_sem]
  have HQ := Lib.hid (And.intro q1 q2)
  obtain ⟨D, hD⟩ : ∃ D, D = tx kd := ⟨_, rfl⟩
  obtain ⟨G, hG⟩ : ∃ G, G = tx kb := ⟨_, rfl⟩
  have HDG := Lib.hid (And.intro hD hG)
  rw [← hD, ← hG] at HB HH HQ ⊢
  clear h hD hG q1 q2
  go_enter Tryz.func40, Tryz.ntmps40
  go_wp2
  obtain ⟨W, hW⟩ : ∃ W, W = w.alloc (.cells #[.bool kon, .string D, .string G, .int .i64 ((s : Int) - 1)] 43) := ⟨_, rfl⟩
  rw [← hW] at HB HH HQ ⊢
  clear hW
  go_loopw [9] (fun i wr => ∃ j : Nat, i = .int .i64 (j : Int) ∧ s ≤ j ∧ (j ≤ s ∨ j ≤ L.length) ∧ Hid (∀ q, s ≤ q → q < j → toldAt L kd kb q = false) ∧ W = wr) (fun i _ => L.length - (intOf i).toNat)
  case atStart => exact ⟨s, by simp, Nat.le_refl _, .inl (Nat.le_refl _), Lib.hid (fun q h1 h2 => by omega), rfl⟩
  case round =>
    obtain ⟨j, rfl, hsj, hjl, HN, rfl⟩ := hrel
    obtain ⟨-, c1, -⟩ := HH.out.cells
    obtain ⟨n, hn⟩ : ∃ n, n = L.length := ⟨_, rfl⟩
    have HNL := Lib.hid hn
    rw [← hn] at c1 hjl hL ⊢
    clear hn
    have i1 : (0 : Int) ≤ (j : Int) := by omega
    by_cases hlt : j < n
    · have i2 : (j : Int) < (n : Int) := by omega
      obtain ⟨g, rfl, hg, hcap, hget⟩ := HH.out.row.get j (by have := HNL.out; omega)
      have ce := hget j (by have := HNL.out; omega)
      have HT := Lib.hid (wtoldB w.heap.size (L.getD j []) kd kb _ (by rw [← HDG.out.1]; exact HQ.out.1) (by rw [← HDG.out.2]; exact HQ.out.2))
      obtain ⟨T, hT⟩ : ∃ T, T = toldAt L kd kb j := ⟨_, rfl⟩
      have HTT := Lib.hid hT
      unfold toldAt at hT
      rw [← hT] at HT
      obtain ⟨X, hX⟩ : ∃ X, X = tx (L.getD j []) := ⟨_, rfl⟩
      rw [← hX] at HT ce
      clear hT hX hget hcap hg
      cases T
      · go_wp2_with (first | (go_at_call 61; (with_reducible refine HT.out.mono ?_); rintro e w' ⟨rfl, rfl⟩))
        go_roundw
        case rel => exact ⟨j + 1, by go_num, by omega, .inr (by have := HNL.out; omega), Lib.hid (fun q h1 h2 => by
          by_cases e : q = j
          · rw [e]; exact HTT.out.symm
          · exact HN.out q h1 (by omega)), by trivial⟩
        case measure => have := HNL.out; simp [intOf]; omega
      · go_wp2_with (first | (go_at_call 61; (with_reducible refine HT.out.mono ?_); rintro e w' ⟨rfl, rfl⟩))
        go_ret2
        exact ⟨by rw [nxU_some (by have := HNL.out; omega) HTT.out.symm hsj HN.out]; rfl, HB.out⟩
    · have i2 : ¬ (j : Int) < (n : Int) := by omega
      go_wp2
      go_ret2
      exact ⟨by rw [nxU_none (fun q h1 h2 => HN.out q h1 (by have := HNL.out; omega))]; rfl, HB.out⟩
set_option maxHeartbeats 1000000 in
theorem wnextD (b : Nat) (m : Int) (L : List Bs) (k0 k : Wk) (x : Option Addr) (c : Nat) (hL : L.length ≤ 1000) (s : Nat) (hs : s ≤ L.length) (hk : k.at_ = (s : Int)) (w : World) (h : His w b m L k0 x c) :
    Calls Tryz.prog 40 #[.pointer (some ⟨b, 0, none⟩), wkV k, .int .i64 (-1)] w fun e w' => e = nxE (nxD L k.d k.bg s) ∧ Below w.heap.size w w' := by
  obtain ⟨kon, kd, kb, ka⟩ := k
  simp only at hk
  subst hk
  unfold wkV
  simp only
  have HB := Lib.hid ((Below.refl w.heap.size w).alloc (Nat.le_refl _) (.cells #[.bool kon, .string (tx kd), .string (tx kb), .int .i64 (s : Int)] 43))
  have HH := Lib.hid (h.below HB.out)
  have q1 : (w.alloc (.cells #[.bool kon, .string (tx kd), .string (tx kb), .int .i64 (s : Int)] 43)).cell? ⟨w.heap.size, 1, none⟩ = some (.string (tx kd)) := by simp [go_sem]
  have q2 : (w.alloc (.cells #[.bool kon, .string (tx kd), .string (tx kb), .int .i64 (s : Int)] 43)).cell? ⟨w.heap.size, 2, none⟩ = some (.string (tx kb)) := by simp [go_sem]
  have HQ := Lib.hid (And.intro q1 q2)
  obtain ⟨D, hD⟩ : ∃ D, D = tx kd := ⟨_, rfl⟩
  obtain ⟨G, hG⟩ : ∃ G, G = tx kb := ⟨_, rfl⟩
  have HDG := Lib.hid (And.intro hD hG)
  rw [← hD, ← hG] at HB HH HQ ⊢
  clear h hD hG q1 q2
  go_enter Tryz.func40, Tryz.ntmps40
  go_wp2
  obtain ⟨W, hW⟩ : ∃ W, W = w.alloc (.cells #[.bool kon, .string D, .string G, .int .i64 (s : Int)] 43) := ⟨_, rfl⟩
  rw [← hW] at HB HH HQ ⊢
  clear hW
  go_loopw [9] (fun i wr => ∃ j : Nat, i = .int .i64 ((j : Int) - 1) ∧ j ≤ s ∧ Hid (∀ q, j ≤ q → q < s → toldAt L kd kb q = false) ∧ W = wr) (fun i _ => (intOf i + 1).toNat)
  case atStart => exact ⟨s, by first | rfl | go_num, Nat.le_refl _, Lib.hid (fun q h1 h2 => by omega), rfl⟩
  case round =>
    obtain ⟨j, rfl, hsj, HN, rfl⟩ := hrel
    obtain ⟨-, c1, -⟩ := HH.out.cells
    obtain ⟨n, hn⟩ : ∃ n, n = L.length := ⟨_, rfl⟩
    have HNL := Lib.hid hn
    rw [← hn] at c1 hL hs
    clear hn
    by_cases hlt : 0 < j
    · obtain ⟨j, rfl⟩ : ∃ i, j = i + 1 := ⟨j - 1, by omega⟩
      have ej : ((j + 1 : Nat) : Int) - 1 = (j : Int) := by omega
      rw [ej]
      clear ej
      have i1 : (0 : Int) ≤ (j : Int) := by omega
      have i2 : (j : Int) < (n : Int) := by omega
      obtain ⟨g, rfl, hg, hcap, hget⟩ := HH.out.row.get j (by have := HNL.out; omega)
      have ce := hget j (by have := HNL.out; omega)
      have HT := Lib.hid (wtoldB w.heap.size (L.getD j []) kd kb _ (by rw [← HDG.out.1]; exact HQ.out.1) (by rw [← HDG.out.2]; exact HQ.out.2))
      obtain ⟨T, hT⟩ : ∃ T, T = toldAt L kd kb j := ⟨_, rfl⟩
      have HTT := Lib.hid hT
      unfold toldAt at hT
      rw [← hT] at HT
      obtain ⟨X, hX⟩ : ∃ X, X = tx (L.getD j []) := ⟨_, rfl⟩
      rw [← hX] at HT ce
      clear hT hX hget hcap hg
      cases T
      · go_wp2_with (first | (go_at_call 61; (with_reducible refine HT.out.mono ?_); rintro e w' ⟨rfl, rfl⟩))
        go_roundw
        case rel => exact ⟨j, by first | rfl | go_num, by omega, Lib.hid (fun q h1 h2 => by
          by_cases e : q = j
          · rw [e]; exact HTT.out.symm
          · exact HN.out q (by omega) h2), by trivial⟩
        case measure => simp [intOf] <;> omega
      · go_wp2_with (first | (go_at_call 61; (with_reducible refine HT.out.mono ?_); rintro e w' ⟨rfl, rfl⟩))
        go_ret2
        exact ⟨by rw [nxD_some (by omega) HTT.out.symm (fun q h1 h2 => HN.out q (by omega) h2)]; rfl, HB.out⟩
    · obtain rfl : j = 0 := by omega
      have e0 : ((0 : Nat) : Int) - 1 = -1 := by omega
      rw [e0]
      clear e0
      go_wp2
      go_ret2
      exact ⟨by rw [nxD_none (fun q h2 => HN.out q (Nat.zero_le _) h2)]; rfl, HB.out⟩
end Go.Proofs.YtbaljpamhmbcjaaGreat
