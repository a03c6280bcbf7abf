/- num.Sort: the keys collected, sorted, told back. -/
import Derived.Test.YtepjdnokkgmhoaaZG
import Derived.Test.YtepjdnokkgmhoaaL2
namespace Go.Proofs.Ytepjdnokkgmhoaa
open Go.RowKit Go.Sort Go.Shelf
def keysF (L : List Nat) : List Nat := L.map keyN
def sortF (L : List Nat) : List Nat := (sortN (keysF L)).map ofX
theorem sortF_len (L : List Nat) : (sortF L).length = L.length := by simp [sortF, sortN_len, keysF]
theorem mem_sortN {K : List Nat} {k : Nat} : k ∈ sortN K ↔ k ∈ K := List.mem_mergeSort
set_option maxRecDepth 100000 in
set_option maxHeartbeats 4000000 in
theorem tsort (x : Option Addr) (cap : Nat) (L : List Nat) (w : World) (hx : RowF w x L) (hl : ∀ a ∈ L, a < 18446744073709551616) (hm : L.length ≤ 60) : Calls Try.prog 38 #[.slice x L.length cap] w (GivesF w (sortF L)) := by
  obtain ⟨i0, hi0, hz0, hz1, hz2⟩ := info_parts22
  obtain ⟨j0, hj0, hy0, hy1, hy2⟩ := info_parts44
  have HI := Lib.hid hi0
  have HZ0 := Lib.hid hz0
  have HZ1 := Lib.hid hz1
  have HZ2 := Lib.hid hz2
  have HJ := Lib.hid hj0
  have HY0 := Lib.hid hy0
  have HY1 := Lib.hid hy1
  have HY2 := Lib.hid hy2
  have HX := Lib.hid hx
  have HL := Lib.hid hl
  obtain ⟨n, hn⟩ : ∃ n, L.length = n := ⟨_, rfl⟩
  have HN := Lib.hid hn
  have HK : Hid ((keysF L).length = n) := Lib.hid (by rw [keysF, List.length_map, hn])
  have HKL : Hid (∀ k ∈ sortN (keysF L), k < 18446744073709551616) := Lib.hid (fun k hk => by
    rw [mem_sortN] at hk
    obtain ⟨a, ha, rfl⟩ := List.mem_map.1 hk
    exact keyN_lt a (hl a ha))
  rw [hn] at hm ⊢
  clear hx hl hn hi0 hz0 hz1 hz2 hj0 hy0 hy1 hy2
  go_enter Try.func38, Try.ntmps38
  go_wp2_with fail
  go_loopw [3, 13] (fun v i wr => ∃ (k c : Nat) (y : Option Addr), k ≤ n ∧ v = .slice y k c ∧ i = .int .i64 (k : Int) ∧ Hid (wr.ownsRow w.heap.size 44 1 (.slice y k c) k (((keysF L).take k).map uV)) ∧ Hid (Below w.heap.size w wr)) (fun _ i _ => n - (intOf i).toNat)
  case atStart => exact ⟨0, 0, none, by omega, rfl, rfl, Lib.hid (World.ownsRow_nil _ _ _ _), Lib.hid (Below.refl _ _)⟩
  case round =>
    obtain ⟨k, c, y, hk, rfl, rfl, HO, HB⟩ := hrel
    by_cases h1 : k < n
    · have h1z : (k : Int) < (n : Int) := by omega
      have hsz := HB.out.size
      obtain ⟨b, off, rfl, hb, hc⟩ := HX.out (by rw [HN.out]; omega)
      have hck : wr.cell? ⟨b, off + k, none⟩ = some (.float .f64 (L.getD k 0)) := (HB.out.cell (p := ⟨b, off + k, none⟩) hb).trans (hc k (by rw [HN.out]; omega))
      have hXl : L.getD k 0 < 18446744073709551616 := HL.out _ (by
        have hk2 : k < L.length := by rw [HN.out]; omega
        simp [hk2])
      have HE : Hid ((keysF L).getD k 0 = keyN (L.getD k 0)) := Lib.hid (by
        have hk2 : k < L.length := by rw [HN.out]; omega
        simp [keysF, hk2])
      obtain ⟨X, hX⟩ : ∃ X, X = L.getD k 0 := ⟨_, rfl⟩
      rw [← hX] at hck hXl HE
      have HXL := Lib.hid hXl
      clear hc hX hXl
      go_wp2_with (first | (go_at_call 31; (with_reducible refine (tkey X HXL.out _).mono ?_); rintro e w' ⟨rfl, rfl⟩) | (at_builtin; go_loud (refine wpList_append_own _ rfl _ _ 69 rfl w.heap.size 44 j0 (.int .u64 0) 1 8 Try.underlying69 HJ.out HY0.out HY1.out HY2.out rfl (by decide) _ _ _ rfl (HO.out.alloc _) ⟨wr.heap.size, 0, none⟩ 1 1 [.int .u64 (keyN X : Nat)] rfl rfl (cell_one_new _ _ _) (by intro u hu; simp at hu; subst hu; rfl) (by unfold maxLen; omega) (by omega) (by simp; omega) ?_); intro v1 w1 hown1 hgrow1 hnil1; have HO1 := Lib.hid hown1; have HG1 := Lib.hid hgrow1; clear hown1 hgrow1 hnil1))
      have HX2 := Lib.hid (((HB.out.alloc hsz (.cells #[.int .u64 (keyN X : Nat)] 44)).grown HG1.out (by simp; omega) (fun j hj => (HO.out.lt j hj).1)))
      have HY : Hid (w1.ownsRow w.heap.size 44 1 v1 (k + 1) (((keysF L).take (k + 1)).map uV)) := Lib.hid (by rw [take_snoc _ k (by rw [HK.out]; omega), List.map_append, HE.out]; exact HO1.out)
      obtain ⟨y1, c1, rfl⟩ := owns_slice HO1.out
      go_roundw
      case rel => exact ⟨k + 1, c1, y1, by omega, rfl, by go_num, HY, HX2⟩
      case measure => simp [intOf]; omega
    · obtain rfl : k = n := by omega
      have h1z : ¬ (k : Int) < (k : Int) := by omega
      have hS : Calls Try.prog 54 #[.slice y k c] wr fun e w' => e = .returned (.tuple #[]) ∧ w'.ownsRow w.heap.size 44 1 (.slice y k c) k ((sortN (keysF L)).map uV) ∧ wr.grownBy w' (Value.slice y k c).ownBlock := by
        have h := HO.out
        rw [List.take_of_length_le (by rw [HK.out]; exact Nat.le_refl _)] at h
        have := uSortK (K := keysF L) (by rw [HK.out]; exact h) (by rw [HK.out]; omega)
        rwa [HK.out] at this
      have HS := Lib.hid hS
      have HBv := Lib.hid (fun j hj => (HO.out.lt j hj).1)
      clear hS HO
      go_wp2_with (first | (go_at_call 54; refine HS.out.mono ?_; rintro e w2 ⟨rfl, hO2, hG2⟩; have HO2 := Lib.hid hO2; have HB2 : Hid (Below w.heap.size w w2) := Lib.hid (HB.out.grown hG2 HB.out.size HBv.out); clear hO2 hG2))
      have HSL : Hid ((sortF L).length = k) := Lib.hid (by rw [sortF_len, HN.out])
      have HSN : Hid ((sortN (keysF L)).length = k) := Lib.hid (by rw [sortN_len, HK.out])
      clear HS HBv HB
      go_loopw [6, 27] (fun v i wr => ∃ (m c' : Nat) (y' : Option Addr), m ≤ k ∧ v = .slice y' m c' ∧ i = .int .i64 (m : Int) ∧ Hid (wr.ownsRow w2.heap.size 22 1 (.slice y' m c') m (((sortF L).take m).map fV)) ∧ Hid (Below w2.heap.size w2 wr)) (fun _ i _ => k - (intOf i).toNat)
      case atStart => exact ⟨0, 0, none, by omega, rfl, rfl, Lib.hid (World.ownsRow_nil _ _ _ _), Lib.hid (Below.refl _ _)⟩
      case round =>
        obtain ⟨m, c', y', hm', rfl, rfl, HP, HQ⟩ := hrel
        by_cases h2 : m < k
        · have h2z : (m : Int) < (k : Int) := by omega
          have hsz := HQ.out.size
          obtain ⟨g, rfl, hg, hc⟩ := own_cell HO2.out (by omega)
          obtain ⟨Y, hY⟩ : ∃ Y, Y = (sortN (keysF L)).getD m 0 := ⟨_, rfl⟩
          have hm2 : m < (sortN (keysF L)).length := by rw [HSN.out]; exact h2
          have hck : wr.cell? ⟨g, m, none⟩ = some (.int .u64 (Y : Nat)) := (HQ.out.cell (p := ⟨g, m, none⟩) hg).trans (by rw [hc m h2, hY]; simp [hm2, uV])
          have HYL : Hid (Y < 18446744073709551616) := Lib.hid (HKL.out _ (by rw [hY]; simp [hm2]))
          have HE : Hid ((sortF L).getD m 0 = ofX Y) := Lib.hid (by rw [hY]; simp [sortF, hm2])
          clear hc hY hm2
          go_wp2_with (first | (go_at_call 29; (with_reducible refine (tof Y HYL.out _).mono ?_); rintro e w' ⟨rfl, rfl⟩) | (at_builtin; go_loud (refine wpList_append_own _ rfl _ _ 38 rfl w2.heap.size 22 i0 (.float .f64 0) 1 8 Try.underlying38 HI.out HZ0.out HZ1.out HZ2.out rfl (by decide) _ _ _ rfl (HP.out.alloc _) ⟨wr.heap.size, 0, none⟩ 1 1 [.float .f64 (ofX Y)] rfl rfl (cell_one_new _ _ _) (by intro u hu; simp at hu; subst hu; rfl) (by unfold maxLen; omega) (by omega) (by simp; omega) ?_); intro v1 w1 hown1 hgrow1 hnil1; have HO1 := Lib.hid hown1; have HG1 := Lib.hid hgrow1; clear hown1 hgrow1 hnil1))
          have HX2 := Lib.hid (((HQ.out.alloc hsz (.cells #[.float .f64 (ofX Y)] 22)).grown HG1.out (by simp; omega) (fun j hj => (HP.out.lt j hj).1)))
          have HY : Hid (w1.ownsRow w2.heap.size 22 1 v1 (m + 1) (((sortF L).take (m + 1)).map fV)) := Lib.hid (by rw [take_snoc _ m (by rw [HSL.out]; omega), List.map_append, HE.out]; exact HO1.out)
          obtain ⟨y1, c1, rfl⟩ := owns_slice HO1.out
          go_roundw
          case rel => exact ⟨m + 1, c1, y1, by omega, rfl, by go_num, HY, HX2⟩
          case measure => simp [intOf]; omega
        · obtain rfl : m = k := by omega
          have h2z : ¬ (m : Int) < (m : Int) := by omega
          have hfin : GivesF w (sortF L) (.returned (.slice y' m c')) wr := by
            refine ⟨y', c', by rw [HSL.out], ⟨w2.heap.size, HB2.out.size, ?_⟩, HB2.out.trans (HQ.out.mono HB2.out.size)⟩
            have h := HP.out
            rw [List.take_of_length_le (by rw [HSL.out]; exact Nat.le_refl _)] at h
            rw [HSL.out]; exact h
          have HF := Lib.hid hfin
          clear hfin
          go_wp2_with fail
          go_ret
          exact HF.out
end Go.Proofs.Ytepjdnokkgmhoaa
