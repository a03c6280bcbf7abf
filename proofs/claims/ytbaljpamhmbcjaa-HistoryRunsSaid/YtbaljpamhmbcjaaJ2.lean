/- Walks: has and Find of the reference. -/
import Derived.Test.YtbaljpamhmbcjaaJ1
import Derived.Lib.IndexLaws
import Derived.Lib.IndexMore
namespace Go.Proofs.Ytbaljpamhmbcjaa
open Go.RowKit Go.Shelf
theorem occ_piece (l t : Bs) (i : Nat) : (((tx l).extract i (i + t.length)).toList == (tx t).toList) = Lib.occAt l t i := by
  rw [tx_extract, beq_bytes, show i + t.length - i = t.length by omega, Bool.eq_iff_iff, decide_eq_true_iff]
  unfold Lib.occAt
  rw [List.isPrefixOf_iff_prefix, List.prefix_iff_eq_take]
  exact ⟨fun h => (tx_inj h).symm, fun h => by rw [← h]⟩
theorem contains_hit {l t : Bs} {i : Nat} (hi : i ≤ l.length) (h : Lib.occAt l t i = true) : Lib.contains l t = true := by
  unfold Lib.contains
  rw [decide_eq_true_iff]
  rcases Lib.index_spec l t with ⟨_, h2⟩ | ⟨j, h2, _⟩
  · rw [h2 i hi] at h; cases h
  · rw [h2]; omega
theorem contains_past {l t : Bs} {i : Nat} (hn : ∀ j, j < i → Lib.occAt l t j = false) (h : l.length < i + t.length) : Lib.contains l t = false := by
  unfold Lib.contains
  rw [decide_eq_false_iff_not, Lib.index_none (fun j hj => ?_)]
  · decide
  · by_cases e : j < i
    · exact hn j e
    · unfold Lib.occAt
      rw [Bool.eq_false_iff]
      intro q
      rw [List.isPrefixOf_iff_prefix] at q
      have := q.length_le
      simp at this
      omega
set_option maxHeartbeats 1000000 in
theorem whas (l t : Bs) (hl : l.length ≤ 1000000) (ht : t.length ≤ 1000000) (w : World) : Calls Try.prog 40 #[.string (tx l), .string (tx t)] w fun e w' => e = .returned (.bool (Lib.contains l t)) ∧ w = w' := by
  have HO := Lib.hid (fun i => occ_piece l t i)
  have hs1 := tx_size l
  have hs2 := tx_size t
  obtain ⟨T, hT⟩ : ∃ T, T = tx l := ⟨_, rfl⟩
  obtain ⟨U, hU⟩ : ∃ T, T = tx t := ⟨_, rfl⟩
  rw [← hT] at hs1 HO ⊢
  rw [← hU] at hs2 HO ⊢
  rw [← hs2] at HO
  have HS := Lib.hid (And.intro hs1 hs2)
  have g1 : T.size ≤ 1000000 := by omega
  have g2 : U.size ≤ 1000000 := by omega
  clear hT hU hs1 hs2 hl ht
  go_enter Try.func40, Try.ntmps40
  go_wp2
  go_loopw [5] (fun v wr => ∃ i : Nat, v = .int .i64 (i : Int) ∧ i ≤ T.size + 1 ∧ Hid (∀ j, j < i → Lib.occAt l t j = false) ∧ w = wr) (fun v _ => T.size + 2 - (intOf v).toNat)
  case atStart => exact ⟨0, rfl, by omega, Lib.hid (fun j hj => by omega), rfl⟩
  case round =>
    obtain ⟨i, rfl, hi, HN, rfl⟩ := hrel
    have i1 : (0 : Int) ≤ (i : Int) := by omega
    by_cases hle : i + U.size ≤ T.size
    · have i2 : (U.size : Int) ≤ (T.size : Int) - (i : Int) := by omega
      have i3 : (i : Int) + (U.size : Int) ≤ (T.size : Int) := by omega
      have i4 : (i : Int) ≤ (i : Int) + (U.size : Int) := by omega
      have i5 : (0 : Int) ≤ (i : Int) + (U.size : Int) := by omega
      have i6 : ((i : Int) + (U.size : Int)).toNat = i + U.size := by omega
      have HOI := Lib.hid (HO.out i)
      obtain ⟨V, hV⟩ : ∃ V, V = Lib.occAt l t i := ⟨_, rfl⟩
      have HV := Lib.hid hV
      rw [← hV] at HOI
      have hq := HOI.out
      clear hV
      cases V
      · go_wp2
        go_roundw
        case rel => exact ⟨i + 1, by go_num, by omega, Lib.hid (fun j hj => by
          by_cases e : j = i
          · rw [e]; exact HV.out.symm
          · exact HN.out j (by omega)), by trivial⟩
        case measure => simp [intOf]; omega
      · go_wp2
        go_ret
        exact ⟨ret_bool (contains_hit (by have := HS.out; omega) HV.out.symm).symm, rfl⟩
    · have i2 : ¬ (U.size : Int) ≤ (T.size : Int) - (i : Int) := by omega
      go_wp2
      go_ret
      exact ⟨ret_bool (contains_past HN.out (by have := HS.out; omega)).symm, rfl⟩
set_option maxHeartbeats 1000000 in
theorem wrfind (mo : Int) (x : Option Addr) (c : Nat) (on : Bool) (d g : ByteArray) (at_ : Int) (L : List Bs) (hL : L.length ≤ 1000) (hN : ∀ l ∈ L, l.length ≤ 4000) (t : Bs) (ht : t.length ≤ 1000) (fr : Int) (w : World) (h : SeesL w x c L) :
    Calls Try.prog 24 #[.agg #[.int .i64 mo, .slice x L.length c, .bool on, .string d, .string g, .int .i64 at_], .string (tx t), .int .i64 fr] w fun e w' => e = nxE (findO L t fr) ∧ Below w.heap.size w w' := by
  have HB := Lib.hid ((Below.refl w.heap.size w).alloc (Nat.le_refl _) (.cells #[.int .i64 mo, .slice x L.length c, .bool on, .string d, .string g, .int .i64 at_] 41))
  have HH := Lib.hid (h.below HB.out)
  have HA := Lib.hid (fun (i : Nat) (W : World) => whas (L.getD i []) t (by have := getD_len hN i; omega) (by omega) W)
  obtain ⟨s, hs⟩ : ∃ s : Nat, max (0 : Int) fr = (s : Int) := ⟨(max 0 fr).toNat, by omega⟩
  have HSF : Hid (∀ i : Nat, (fr ≤ (i : Int)) ↔ s ≤ i) := Lib.hid (fun i => by omega)
  have c1 : (w.alloc (.cells #[.int .i64 mo, .slice x L.length c, .bool on, .string d, .string g, .int .i64 at_] 41)).cell? ⟨w.heap.size, 1, none⟩ = some (.slice x L.length c) := by simp [go_sem]
  obtain ⟨T, hT⟩ : ∃ T, T = tx t := ⟨_, rfl⟩
  rw [← hT] at HA ⊢
  unfold nxE
  obtain ⟨n, hn⟩ : ∃ n, n = L.length := ⟨_, rfl⟩
  have HNN := Lib.hid hn
  rw [← hn] at hL c1 HB HH ⊢
  clear h hT hn hN ht
  go_enter Try.func24, Try.ntmps24
  go_wp2
  obtain ⟨W, hW⟩ : ∃ W, W = w.alloc (.cells #[.int .i64 mo, .slice x n c, .bool on, .string d, .string g, .int .i64 at_] 41) := ⟨_, rfl⟩
  rw [← hW] at HB HH c1 ⊢
  clear hW
  go_loopw [8] (fun v wr => ∃ i : Nat, v = .int .i64 (i : Int) ∧ s ≤ i ∧ (i ≤ s ∨ i ≤ n) ∧ Hid (∀ j, j < i → hitB L t fr j = false) ∧ W = wr) (fun v _ => n - (intOf v).toNat)
  case atStart => exact ⟨s, by simp, Nat.le_refl _, .inl (Nat.le_refl _), Lib.hid (fun j hj => by
    unfold hitB
    rw [decide_eq_false (fun q => by have := (HSF.out j).1 q; omega)]
    rfl), rfl⟩
  case round =>
    obtain ⟨i, rfl, hsi, hin, HNO, rfl⟩ := hrel
    have i1 : (0 : Int) ≤ (i : Int) := by omega
    by_cases hlt : i < n
    · have i2 : (i : Int) < (n : Int) := by omega
      obtain ⟨gg, rfl, hg, hget⟩ := HH.out.2.2 (by have := HNN.out; omega)
      have ce := hget i (by have := HNN.out; omega)
      have HAI := Lib.hid (HA.out i)
      obtain ⟨V, hV⟩ : ∃ V, V = Lib.contains (L.getD i []) t := ⟨_, rfl⟩
      have HV : Hid (hitB L t fr i = V) := Lib.hid (by rw [hV]; unfold hitB; rw [decide_eq_true ((HSF.out i).2 hsi)]; rfl)
      rw [← hV] at HAI
      obtain ⟨X, hX⟩ : ∃ X, X = tx (L.getD i []) := ⟨_, rfl⟩
      rw [← hX] at HAI ce
      clear hV hX hget hg hs
      cases V
      · go_wp2_with (first | (go_at_call 40; (with_reducible refine (HAI.out _).mono ?_); rintro e w' ⟨rfl, rfl⟩))
        go_roundw
        case rel => exact ⟨i + 1, by go_num, by omega, .inr (by omega), Lib.hid (fun j hj => by
          by_cases e : j = i
          · rw [e]; exact HV.out
          · exact HNO.out j (by omega)), by trivial⟩
        case measure => simp [intOf]; omega
      · go_wp2_with (first | (go_at_call 40; (with_reducible refine (HAI.out _).mono ?_); rintro e w' ⟨rfl, rfl⟩))
        go_ret2
        exact ⟨by rw [findO_some (by have := HNN.out; omega) HV.out HNO.out]; rfl, HB.out⟩
    · have i2 : ¬ (i : Int) < (n : Int) := by omega
      clear hs
      go_wp2
      go_ret2
      exact ⟨by rw [findO_none (fun j hj => HNO.out j (by have := HNN.out; omega))]; rfl, HB.out⟩
end Go.Proofs.Ytbaljpamhmbcjaa
