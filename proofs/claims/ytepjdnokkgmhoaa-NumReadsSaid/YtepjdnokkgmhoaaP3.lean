/- Whole numbers' texts: the reference's Print. -/
import Derived.Test.YtepjdnokkgmhoaaP2
namespace Go.Proofs.Ytepjdnokkgmhoaa
open Go.RowKit Go.Shelf
theorem strOfNums_cons (x : Int) (l : List Int) : strOfNums [x] ++ strOfNums l = strOfNums (x :: l) := by
  apply ByteArray.ext
  simp [strOfNums]
theorem strOfNums_append (a b : List Int) : strOfNums a ++ strOfNums b = strOfNums (a ++ b) := by
  apply ByteArray.ext
  simp [strOfNums]
def strLen : Value → Nat
  | .string t => t.size
  | _ => 0
theorem quoN (V : Nat) : (-(V : Int)).tdiv 10 = -((V / 10 : Nat) : Int) := by rw [Int.neg_tdiv]; rfl
theorem remN (V : Nat) : (-(V : Int)).tmod 10 = -((V % 10 : Nat) : Int) := by rw [Int.neg_tmod]; rfl
theorem conv_one (W : World) (x : Int) (t : TypeId) : (convert 58 9 (.slice (some ⟨W.heap.size, 0, none⟩) 1 1)).run Try.prog (W.alloc (.cells #[.int .u8 x] t)) = .ok (.string (strOfNums [x])) (W.alloc (.cells #[.int .u8 x] t)) :=
  run_convert_bytes_arg _ 58 5 Try.underlying58 Try.underlying5 W.heap.size 0 1 1 [x] rfl (fun i hi => by
    obtain rfl : i = 0 := by omega
    simp [go_sem]) 9 Try.underlying9
theorem digL_size (U k : Nat) : (strOfNums (digL U k)).size = k := by rw [strOfNums_size, digL_length]
theorem digL_size2 (U k : Nat) (x : Int) : (strOfNums [x] ++ strOfNums (digL U k)).size = k + 1 := by rw [strOfNums_cons, strOfNums_size, List.length_cons, digL_length]
theorem digL_empty (U k : Nat) : (strOfNums (digL U k)).toList.isEmpty = decide (k = 0) := by rw [empty_test, digL_size]
/-- The relation of the reference's loop. -/
def RP (w : World) (U k V : Nat) (wr : World) : Prop := k < 21 ∧ V = U / 10 ^ k ∧ (∀ j, j < k → 0 < j → 0 < U / 10 ^ j) ∧ Below w.heap.size w wr
theorem RP.start (w : World) (U : Nat) : RP w U 0 U w := ⟨by omega, by simp, fun j hj => absurd hj (Nat.not_lt_zero j), Below.refl _ _⟩
theorem RP.next {w wr wr' : World} {U k V : Nat} (h : RP w U k V wr) (hU : U < 10 ^ 20) (hc : 0 < V ∨ k = 0) (hw : Below w.heap.size wr wr') : RP w U (k + 1) (V / 10) wr' := by
  obtain ⟨h1, h2, h3, h4⟩ := h
  have hk : k < 20 := by
    rcases hc with hc | hc
    · rcases Nat.lt_or_ge k 20 with z | z
      · exact z
      · have h20 : U / 10 ^ k = 0 := Nat.div_eq_of_lt (Nat.lt_of_lt_of_le hU (Nat.pow_le_pow_right (by omega) z))
        omega
    · omega
  refine ⟨by omega, by rw [h2, Nat.div_div_eq_div_mul, Nat.pow_succ], fun j hj h0 => ?_, h4.trans hw⟩
  rcases Nat.lt_or_ge j k with z | z
  · exact h3 j z h0
  · obtain rfl : j = k := by omega
    omega
theorem RP.stop {w wr : World} {U k : Nat} (h : RP w U k 0 wr) (hU : U < 10 ^ 20) (hk : 0 < k) : cntD U = k := by
  obtain ⟨h1, h2, h3, h4⟩ := h
  obtain ⟨j, rfl⟩ : ∃ j, k = j + 1 := ⟨k - 1, by omega⟩
  exact cntD_eq U j hU h2.symm (fun i hi => h3 (i + 1) (by omega) (by omega))
theorem digL_next (U k M : Nat) (h : U / 10 ^ k % 10 = M) : strOfNums [48 + (M : Int)] ++ strOfNums (digL U k) = strOfNums (digL U (k + 1)) := by rw [strOfNums_cons, digL_succ, h]
set_option maxRecDepth 100000 in
set_option maxHeartbeats 1000000 in
theorem rprint (n : Int) (hlo : -9223372036854775808 ≤ n) (hhi : n ≤ 9223372036854775807) (w : World) : Calls Try.prog 19 #[.int .i64 n] w fun e w' => e = .returned (.string (printS n)) ∧ Below w.heap.size w w' := by
  obtain ⟨U, hU⟩ : ∃ U, n.natAbs = U := ⟨_, rfl⟩
  obtain ⟨S, hS⟩ : ∃ S, printS n = S := ⟨_, rfl⟩
  have e1 : strOfNums ((if n < 0 then [45] else []) ++ digL U (cntD U)) = S := by rw [← hS, printS, hU]
  rw [hS]
  have E1 := Lib.hid e1
  have HU := Lib.hid (show U < 10 ^ 20 by omega)
  have HU2 := Lib.hid (show U ≤ 9223372036854775808 by omega)
  clear hS e1
  by_cases hn : n < 0
  · have g1 : decide (n < 0) = true := by simpa using hn
    have H1 : Hid (n = -(U : Int)) := Lib.hid (by omega)
    have E2 : Hid (({ data := #[45] } : ByteArray) ++ strOfNums (digL U (cntD U)) = S) := by show _ = _; rw [← E1.out, if_pos hn, ← strOfNums_append]; rfl
    clear hU hlo hhi hn
    go_enter Try.func19, Try.ntmps19
    go_wp2
    go_loopw [0, 4] (fun m s wr => ∃ k V : Nat, m = .int .i64 (-(V : Int)) ∧ s = .string (strOfNums (digL U k)) ∧ Hid (RP w U k V wr)) (fun _ s _ => 30 - strLen s)
    case atStart => exact ⟨0, U, by rw [H1.out], rfl, Lib.hid (RP.start w U)⟩
    case round =>
      obtain ⟨k, V, rfl, rfl, hR⟩ := hrel
      have hem := digL_empty U k
      have hs2 := digL_size U k
      have hkk : k < 21 := hR.out.1
      rcases Nat.eq_zero_or_pos V with h0 | h0
      · subst h0
        rcases Nat.eq_zero_or_pos k with hk | hk
        · subst hk
          have hem2 : (strOfNums (digL U 0)).toList.isEmpty = true := by rw [hem]; rfl
          have hcv := fun W => conv_one W 48 5
          have hs1 := strOfNums_size [(48 : Int)]
          rw [List.length_singleton] at hs1
          have HR2 := Lib.hid (hR.out.next HU.out (.inr rfl) ((Below.refl _ wr).alloc hR.out.2.2.2.size (.cells #[.int .u8 48] 5)))
          have HD := Lib.hid (digL_next U 0 0 (by have := hR.out.2.1; simp at this; rw [← this]))
          clear hem
          go_wp2
          go_roundw
          case rel => exact ⟨1, 0, by simp, by rw [← HD.out]; rfl, HR2⟩
          case measure => simp only [strLen]; rw [digL_size, digL_size2]; omega
        · have hem2 : (strOfNums (digL U k)).toList.isEmpty = false := by rw [hem]; simp; omega
          have HK := Lib.hid (hR.out.stop HU.out hk)
          clear hem hk
          go_wp2
          go_ret
          exact ⟨by rw [← E2.out, HK.out]; rfl, hR.out.2.2.2⟩
      · obtain ⟨M, hM⟩ : ∃ M, V % 10 = M := ⟨_, rfl⟩
        obtain ⟨V2, hV2⟩ : ∃ V2, V / 10 = V2 := ⟨_, rfl⟩
        have hM10 : M < 10 := by omega
        have r1 : (-(V : Int)).tmod 10 = -(M : Int) := by rw [remN, hM]
        have q1 : (-(V : Int)).tdiv 10 = -(V2 : Int) := by rw [quoN, hV2]
        have hcv := fun W => conv_one W (48 + (M : Int)) 5
        have hs1 := strOfNums_size [48 + (M : Int)]
        rw [List.length_singleton] at hs1
        have HR2 := Lib.hid (hR.out.next HU.out (.inl h0) ((Below.refl _ wr).alloc hR.out.2.2.2.size (.cells #[.int .u8 (48 + (M : Int))] 5)))
        rw [hV2] at HR2
        have HD := Lib.hid (digL_next U k M (by have := hR.out.2.1; rw [← this]; exact hM))
        have HL := Lib.hid (show k < 21 from hR.out.1)
        have hbv : V ≤ 9223372036854775808 := by have := hR.out.2.1; rw [this]; exact Nat.le_trans (Nat.div_le_self _ _) HU2.out
        have hbv2 : V2 ≤ V := by omega
        have g2 : decide (-(V : Int) < 0) = true := by simp; omega
        have w2 : IntKind.u8.wrap (48 + (M : Int)) = 48 + (M : Int) := IntWalk.u8_in _ (by omega)
        have w3 : (48 + (M : Int)) % 256 = 48 + (M : Int) := by omega
        clear hM hV2 hem
        go_wp2
        go_roundw
        case rel => exact ⟨k + 1, V2, rfl, by rw [← HD.out], HR2⟩
        case measure => simp only [strLen]; rw [digL_size, digL_size2]; have := HL.out; omega
  · have g1 : decide (n < 0) = false := by simpa using hn
    have w1 : IntKind.i64.wrap (-n) = -(U : Int) := by rw [IntWalk.i64_in _ (by omega)]; omega
    have E2 : Hid (strOfNums (digL U (cntD U)) = S) := by show _ = _; rw [← E1.out, if_neg hn, List.nil_append]
    clear hU hlo hhi hn
    go_enter Try.func19, Try.ntmps19
    go_wp2
    go_loopw [0, 4] (fun m s wr => ∃ k V : Nat, m = .int .i64 (-(V : Int)) ∧ s = .string (strOfNums (digL U k)) ∧ Hid (RP w U k V wr)) (fun _ s _ => 30 - strLen s)
    case atStart => exact ⟨0, U, rfl, rfl, Lib.hid (RP.start w U)⟩
    case round =>
      obtain ⟨k, V, rfl, rfl, hR⟩ := hrel
      have hem := digL_empty U k
      have hs2 := digL_size U k
      have hkk : k < 21 := hR.out.1
      rcases Nat.eq_zero_or_pos V with h0 | h0
      · subst h0
        rcases Nat.eq_zero_or_pos k with hk | hk
        · subst hk
          have hem2 : (strOfNums (digL U 0)).toList.isEmpty = true := by rw [hem]; rfl
          have hcv := fun W => conv_one W 48 5
          have hs1 := strOfNums_size [(48 : Int)]
          rw [List.length_singleton] at hs1
          have HR2 := Lib.hid (hR.out.next HU.out (.inr rfl) ((Below.refl _ wr).alloc hR.out.2.2.2.size (.cells #[.int .u8 48] 5)))
          have HD := Lib.hid (digL_next U 0 0 (by have := hR.out.2.1; simp at this; rw [← this]))
          clear hem
          go_wp2
          go_roundw
          case rel => exact ⟨1, 0, by simp, by rw [← HD.out]; rfl, HR2⟩
          case measure => simp only [strLen]; rw [digL_size, digL_size2]; omega
        · have hem2 : (strOfNums (digL U k)).toList.isEmpty = false := by rw [hem]; simp; omega
          have HK := Lib.hid (hR.out.stop HU.out hk)
          clear hem hk
          go_wp2
          go_ret
          exact ⟨by rw [← E2.out, HK.out]; rfl, hR.out.2.2.2⟩
      · obtain ⟨M, hM⟩ : ∃ M, V % 10 = M := ⟨_, rfl⟩
        obtain ⟨V2, hV2⟩ : ∃ V2, V / 10 = V2 := ⟨_, rfl⟩
        have hM10 : M < 10 := by omega
        have r1 : (-(V : Int)).tmod 10 = -(M : Int) := by rw [remN, hM]
        have q1 : (-(V : Int)).tdiv 10 = -(V2 : Int) := by rw [quoN, hV2]
        have hcv := fun W => conv_one W (48 + (M : Int)) 5
        have hs1 := strOfNums_size [48 + (M : Int)]
        rw [List.length_singleton] at hs1
        have HR2 := Lib.hid (hR.out.next HU.out (.inl h0) ((Below.refl _ wr).alloc hR.out.2.2.2.size (.cells #[.int .u8 (48 + (M : Int))] 5)))
        rw [hV2] at HR2
        have HD := Lib.hid (digL_next U k M (by have := hR.out.2.1; rw [← this]; exact hM))
        have HL := Lib.hid (show k < 21 from hR.out.1)
        have hbv : V ≤ 9223372036854775808 := by have := hR.out.2.1; rw [this]; exact Nat.le_trans (Nat.div_le_self _ _) HU2.out
        have hbv2 : V2 ≤ V := by omega
        have g2 : decide (-(V : Int) < 0) = true := by simp; omega
        have w2 : IntKind.u8.wrap (48 + (M : Int)) = 48 + (M : Int) := IntWalk.u8_in _ (by omega)
        have w3 : (48 + (M : Int)) % 256 = 48 + (M : Int) := by omega
        clear hM hV2 hem
        go_wp2
        go_roundw
        case rel => exact ⟨k + 1, V2, rfl, by rw [← HD.out], HR2⟩
        case measure => simp only [strLen]; rw [digL_size, digL_size2]; have := HL.out; omega
end Go.Proofs.Ytepjdnokkgmhoaa
