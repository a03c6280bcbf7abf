/- The law KeymapMany. -/
import Derived.Test.YthkcfdnenbboaaaK18
namespace Go.Proofs.Ythkcfdnenbboaaa
open Go.RowKit Go.Shelf Go.Maps
def manyK (i : Nat) : Ky := ⟨1, strOfNums [97 + (i : Int) % 26, 97 + (i : Int) / 26], 0, true, false, false⟩
def manyN (i : Nat) : List UInt8 := [97, 108, 116, 45, 116, 101, 120, 116, 46] ++ (strOfNums [97 + (i : Int) % 26, 97 + (i : Int) / 26]).data.toList
theorem many_size (i : Nat) : (strOfNums [97 + (i : Int) % 26, 97 + (i : Int) / 26]).size = 2 := by simp [strOfNums, ByteArray.size]
theorem many_name (i : Nat) : (manyK i).name = manyN i := by
  have h : (manyK i).ok = true := by simp [Ky.ok, okN, okS, manyK, many_size]
  rw [Ky.name, h]; rfl
theorem many_in (i : Nat) : (manyK i).In := ky_in _ _ _ _ _ _ (by omega) (by omega) (by rw [many_size]; omega)
theorem many_inj {i j : Nat} (hi : i < 600) (hj : j < 600) (h : mkS (manyN i) = mkS (manyN j)) : i = j := by
  rw [mkS_inj] at h
  have h := List.append_cancel_left h
  rw [strOfNums_data, strOfNums_data] at h
  simp only [List.map_cons, List.map_nil, List.cons.injEq, and_true] at h
  obtain ⟨h1, h2⟩ := h
  have a := congrArg UInt8.toNat h1
  have b := congrArg UInt8.toNat h2
  rw [UInt8.toNat_ofNat', UInt8.toNat_ofNat'] at a b
  omega
def manyF : Nat → Bnd
  | 0 => noBnd
  | k + 1 => (manyF k).put (mkS (manyN k)) 15
theorem manyF_at (k j : Nat) (hk : k < 600) (hj : j < 600) : manyF k (mkS (manyN j)) = if j < k then some 15 else none := by
  induction k with
  | zero => rfl
  | succ k ih =>
    show (if mkS (manyN j) = mkS (manyN k) then some 15 else manyF k (mkS (manyN j))) = _
    by_cases e : j = k
    · subst e; rw [if_pos rfl, if_pos (by omega)]
    · rw [if_neg (fun q => e (many_inj hj (by omega) q)), ih (by omega)]
      by_cases q : j < k
      · rw [if_pos q, if_pos (by omega)]
      · rw [if_neg q, if_neg (by omega)]
theorem many_ne (i : Nat) : manyN i ≠ [] := by unfold manyN; simp
theorem many_bind (k : Nat) (hk : k < 512) : bindE (manyF k) k (manyN k) 15 = 0 ∧ bindC (manyF k) k (manyN k) 15 = k + 1 ∧ bindF (manyF k) k (manyN k) 15 = manyF (k + 1) := by
  have e : bindE (manyF k) k (manyN k) 15 = 0 := by rw [bindE, if_neg (many_ne k), if_neg (by omega), if_neg (by omega)]
  have h : (manyF k).has (mkS (manyN k)) = false := by rw [Bnd.has, manyF_at k k (by omega) (by omega), if_neg (by omega)]; rfl
  exact ⟨e, by rw [bindC, if_pos ⟨e, h⟩], by rw [bindF, if_pos e]; rfl⟩
theorem many_full : bindE (manyF 512) 512 (manyN 512) 15 = 3 ∧ bindC (manyF 512) 512 (manyN 512) 15 = 512 ∧ bindF (manyF 512) 512 (manyN 512) 15 = manyF 512 := by
  have h : (manyF 512).act (mkS (manyN 512)) = 0 := by rw [Bnd.act, manyF_at 512 512 (by omega) (by omega), if_neg (by omega)]; rfl
  have e : bindE (manyF 512) 512 (manyN 512) 15 = 3 := by rw [bindE, if_neg (many_ne _), if_neg (by omega), if_pos ⟨h, Nat.le_refl _⟩]
  exact ⟨e, by rw [bindC, e, if_neg (by omega)], by rw [bindF, e, if_neg (by omega)]⟩
theorem many_last (k : Nat) (hk : 0 < k) (hk2 : k < 600) : bindE (manyF k) k (manyN 0) 16 = 0 := by
  have h : (manyF k).act (mkS (manyN 0)) = 15 := by rw [Bnd.act, manyF_at k 0 (by omega) (by omega), if_pos hk]; rfl
  rw [bindE, if_neg (many_ne _), if_neg (by omega), if_neg (by omega)]
theorem conv2b (w W : World) (x y : Int) (hW : W = w.alloc (.cells #[.int .u8 x, .int .u8 y] 5)) : (convert 25 9 (.slice (some ⟨w.heap.size, 0, none⟩) 2 2)).run Try.prog W = .ok (.string (strOfNums [x, y])) W := by
  subst hW; exact conv2 w x y
theorem MapI.mono' {w : World} {b mb m m' c : Nat} {f : Bnd} (h : MapI w b mb m c f) (hm : m ≤ m') : MapI w b mb m' c f := ⟨h.cells, h.map.mono hm⟩
set_option maxRecDepth 100000 in
set_option maxHeartbeats 4000000 in
theorem many_any (x : Int) (hx : 0 ≤ x ∧ x ≤ 255) (w : World) : Calls Try.prog 3 #[.int .u8 x] w fun e w' => e = .returned (.bool true) ∧ Below w.heap.size w w' := by
  obtain ⟨N, hN, hN1, hN2⟩ : ∃ N : Nat, 511 + x % 3 = N ∧ 511 ≤ N ∧ N ≤ 513 := ⟨(511 + x % 3).toNat, by omega, by omega, by omega⟩
  go_enter Try.func3, Try.ntmps3
  go_wp2_with (first | (go_at_call 7; fail))
  go_at_call 7
  refine (wnew _).mono ?_
  rintro e w1 ⟨rfl, hM, hB⟩
  have HM1 := Lib.hid hM
  have HB1 := Lib.hid hB
  clear hM hB
  go_wp2_with fail
  clear hN
  go_loopg [5] N (fun n i wr => ∃ k : Nat, k + n = N ∧ i = .int .i64 k ∧ Hid (MapI wr (w.heap.size + 1) w.heap.size k (min k 512) (manyF (min k 512)) ∧ Below w.heap.size w wr))
  case atStart => exact ⟨0, by omega, rfl, Lib.hid ⟨HM1.out, HB1.out⟩⟩
  case round =>
    obtain ⟨k, hk, rfl, HR⟩ := hrel
    by_cases hlt : k < N
    · have hcv := fun W => conv2 W (97 + (k : Int) % 26) (97 + (k : Int) / 26)
      obtain ⟨S, hS⟩ : ∃ S, S = strOfNums [97 + (k : Int) % 26, 97 + (k : Int) / 26] := ⟨_, rfl⟩
      rw [← hS] at hcv
      have HSS := Lib.hid hS
      have hd1 : (k : Int) / 26 ≤ 20 := by omega
      clear hS
      go_wp2_with (first | (go_at_call 8; fail))
      go_at_call 8
      have hk2 : (Ky.mk 1 S 0 true false false) = manyK k := by rw [HSS.out]; rfl
      have hw2 : Below wr.heap.size wr ((wr.alloc (.cells #[.int .u8 (97 + (k : Int) % 26), .int .u8 (97 + (k : Int) / 26)] 5)).alloc (.cells #[.int .i64 1, .string S, .int .i64 0, .bool true, .bool false, .bool false] 27)) := ((Below.refl _ _).alloc (Nat.le_refl _) _).alloc (by simp) _
      have hM2 := HR.out.1.below hw2
      have HB2 := Lib.hid (HR.out.2.trans (below_le hw2 HR.out.2.size))
      clear hw2
      by_cases h5 : k < 512
      · obtain ⟨f1, f2, f3⟩ := many_bind k h5
        rw [Nat.min_eq_left (by omega)] at hM2
        have hbd := wbind hM2 (by omega) (manyK k) (many_in k) 15 (by omega)
        rw [← hk2] at hbd
        refine hbd.mono ?_
        rintro e w2 ⟨rfl, hM3, hB3⟩
        rw [hk2, many_name] at hM3
        rw [f2, f3] at hM3
        rw [hk2, many_name, f1]
        have HM3 := Lib.hid hM3
        have HB3 := Lib.hid (HB2.out.trans (hB3.toBelow (by have := HB2.out.size; omega) (by simp)))
        clear hM3 hB3 hM2 hbd hk2 f1 f2 f3
        go_wp2
        go_roundg (gk - 1)
        case measure => omega
        case rel => exact ⟨k + 1, by omega, by go_num, Lib.hid ⟨by rw [Nat.min_eq_left (by omega)]; exact HM3.out, HB3.out⟩⟩
      · have h6 : k = 512 := by omega
        obtain ⟨f1, f2, f3⟩ := many_full
        have HG := Lib.hid h6
        rw [show min k 512 = 512 by omega] at hM2
        have hbd := wbind hM2 (by omega) (manyK k) (many_in k) 15 (by omega)
        rw [← hk2] at hbd
        refine hbd.mono ?_
        rintro e w2 ⟨rfl, hM3, hB3⟩
        rw [hk2, many_name, show manyN k = manyN 512 by rw [h6]] at hM3
        rw [f2, f3] at hM3
        have fe : bindE (manyF 512) 512 (Ky.mk 1 S 0 true false false).name 15 = 3 := by rw [hk2, many_name, h6]; exact f1
        rw [fe]
        have HM3 := Lib.hid hM3
        have HB3 := Lib.hid (HB2.out.trans (hB3.toBelow (by have := HB2.out.size; omega) (by simp)))
        have h7 : 512 ≤ k := by omega
        clear hM3 hB3 hM2 hbd hk2 f1 f2 f3 h6 fe h5
        go_wp2
        go_roundg (gk - 1)
        case measure => omega
        case rel => exact ⟨k + 1, by omega, by go_num, Lib.hid ⟨by rw [Nat.min_eq_right (by have := HG.out; omega)]; exact HM3.out.mono' (by have := HG.out; omega), HB3.out⟩⟩
    · have HKN := Lib.hid (show k = N by omega)
      have hke : (k : Int) = N := by omega
      obtain ⟨M, hM⟩ : ∃ M, M = min k 512 := ⟨_, rfl⟩
      have hMk : 511 ≤ M ∧ M ≤ 512 := by omega
      have HMK := Lib.hid (show M = min N 512 by rw [hM, HKN.out])
      have HR2 := Lib.hid HR.out
      rw [← hM] at HR2
      have hmin : min (N : Int) 512 = (M : Int) := by have := HMK.out; omega
      clear hM hke HR
      have hbd := Lib.hid (many_last M (by omega) (by omega))
      have h0 : (Ky.mk 1 ⟨#[97, 97]⟩ 0 true false false) = manyK 0 := rfl
      go_wp2_with (first | (go_at_call 9; fail))
      go_at_call 9
      refine (wlen HR2.out.1).mono ?_
      rintro e w1 ⟨rfl, rfl⟩
      go_wp2_with (first | (go_at_call 8; fail))
      go_at_call 8
      have hw2 : Below w1.heap.size w1 _ := (Below.refl _ _).alloc (Nat.le_refl _) (.cells #[.int .i64 1, .string ⟨#[97, 97]⟩, .int .i64 0, .bool true, .bool false, .bool false] 27)
      have hb2 := wbind HR2.out.1 (by omega) (manyK 0) (many_in 0) 16 (by omega)
      refine hb2.mono ?_
      rintro e w2 ⟨rfl, hM3, hB3⟩
      rw [many_name, hbd.out]
      have HB3 := Lib.hid (HR2.out.2.trans (hB3.toBelow (by have := HR2.out.2.size; omega) (by simp)))
      clear hM3 hB3 hb2 h0 hw2
      go_wp2_with (first | (go_at_call 10; fail))
      go_at_call 10
      refine (awake_any _).mono ?_
      rintro e w3 ⟨rfl, hB4⟩
      have HB4 := Lib.hid (HB3.out.trans (below_le hB4 HB3.out.size))
      clear hB4
      go_wp2
      go_ret
      exact ⟨rfl, HB4.out⟩
end Go.Proofs.Ythkcfdnenbboaaa
