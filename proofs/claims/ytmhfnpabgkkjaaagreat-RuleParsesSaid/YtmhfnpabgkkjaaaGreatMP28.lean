/- Own texts, merged: QM, QN, QO, QP. -/
import Derived.Test.YtmhfnpabgkkjaaaGreatMP27
/- Walks: the reference's digit, letter, digits. -/
namespace Go.Proofs.YtmhfnpabgkkjaaaGreat
open Go.RowKit Go.Shelf
theorem rdigit (c : UInt8) (w : World) : Calls Tryz.prog 57 #[.int .u8 (c.toNat : Int)] w fun e w' => e = .returned (.bool (isDig c)) ∧ w = w' := by
  have hc := c.toNat_lt
  rw [digit_dec]
  by_cases h1 : 48 ≤ (c.toNat : Int)
  · by_cases h2 : (c.toNat : Int) ≤ 57
    · go_enter Tryz.func57, Tryz.ntmps57
      go_wp2
      go_ret
      exact ⟨by rw [decide_eq_true ⟨h1, h2⟩]; rfl, rfl⟩
    · go_enter Tryz.func57, Tryz.ntmps57
      go_wp2
      go_ret
      exact ⟨by rw [decide_eq_false (by omega)]; rfl, rfl⟩
  · go_enter Tryz.func57, Tryz.ntmps57
    go_wp2
    go_ret
    exact ⟨by rw [decide_eq_false (by omega)]; rfl, rfl⟩
theorem rletter (c : UInt8) (w : World) : Calls Tryz.prog 59 #[.int .u8 (c.toNat : Int)] w fun e w' => e = .returned (.bool (isLet c)) ∧ w = w' := by
  have hc := c.toNat_lt
  rw [let_dec]
  by_cases h1 : 97 ≤ (c.toNat : Int)
  · by_cases h2 : (c.toNat : Int) ≤ 122
    · go_enter Tryz.func59, Tryz.ntmps59
      go_wp2
      go_ret
      exact ⟨by rw [decide_eq_true ⟨h1, h2⟩]; rfl, rfl⟩
    · go_enter Tryz.func59, Tryz.ntmps59
      go_wp2
      go_ret
      exact ⟨by rw [decide_eq_false (by omega)]; rfl, rfl⟩
  · go_enter Tryz.func59, Tryz.ntmps59
    go_wp2
    go_ret
    exact ⟨by rw [decide_eq_false (by omega)]; rfl, rfl⟩
set_option maxHeartbeats 2000000 in
theorem rdigits (l : Bs) (hl : l.length ≤ 1000000) (w : World) : Calls Tryz.prog 58 #[.string (tx l)] w fun e w' => e = .returned (.int .i64 (cntDig l)) ∧ w = w' := by
  have HS := Lib.hid (tx_size' l)
  have HC := Lib.hid (takeWhile_le isDig l)
  have HL := Lib.hid hl
  have HT := Lib.hid (fun i (hi : i < l.length) => tx_at l i hi)
  clear hl
  go_enter Tryz.func58, Tryz.ntmps58
  go_wp2_with fail
  go_loop [3] (fun i => ∃ j : Nat, i = .int .i64 j ∧ j ≤ l.length ∧ Hid (j ≤ cntDig l)) (fun i => l.length - (intOf i).toNat)
  case atStart => exact ⟨0, rfl, Nat.zero_le _, Lib.hid (Nat.zero_le _)⟩
  case round =>
    obtain ⟨j, rfl, hj, hc⟩ := hrel
    have jl : j ≤ 1000000 := by have := HL.out; omega
    by_cases q1 : j < (tx l).size
    · have q1' : j < l.length := by have := HS.out; omega
      have HX := Lib.hid (HT.out j q1')
      have HA := Lib.hid (takeWhile_at isDig l j hc.out q1')
      cases q2 : isDig (l.getD j 0)
      · have HD : Hid (∀ W, Calls Tryz.prog 57 #[.int .u8 (((tx l)[j]'q1).toNat : Int)] W fun e w' => e = .returned (.bool false) ∧ W = w') := Lib.hid (fun W => by rw [HX.out, ← q2]; exact rdigit _ W)
        have HV := Lib.hid (HA.out.2 q2)
        clear q2 HA
        go_wp2_with (first | (go_at_call 57; refine (HD.out _).mono ?_; rintro e w1 ⟨rfl, rfl⟩))
        go_wp2
        go_ret
        exact ⟨by have e : cntDig l = j := HV.out.symm
                  rw [e]; rfl, rfl⟩
      · have HD : Hid (∀ W, Calls Tryz.prog 57 #[.int .u8 (((tx l)[j]'q1).toNat : Int)] W fun e w' => e = .returned (.bool true) ∧ W = w') := Lib.hid (fun W => by rw [HX.out, ← q2]; exact rdigit _ W)
        have HV := Lib.hid (HA.out.1 q2)
        clear q2 HA
        go_wp2_with (first | (go_at_call 57; refine (HD.out _).mono ?_; rintro e w1 ⟨rfl, rfl⟩))
        go_wp2
        go_round
        case rel => exact ⟨j + 1, by go_num, by omega, Lib.hid HV.out⟩
        case measure => simp [intOf]; omega
    · have HV : Hid (cntDig l = j) := Lib.hid (by have h1 := HS.out; have h2 := HC.out; have h3 := hc.out; unfold cntDig at *; omega)
      go_wp2
      go_ret
      exact ⟨by rw [HV.out]; rfl, rfl⟩
end Go.Proofs.YtmhfnpabgkkjaaaGreat
/- Walk: the reference's piece. -/
namespace Go.Proofs.YtmhfnpabgkkjaaaGreat
open Go.RowKit Go.Shelf
/-- The reference's mark of a piece's kind. -/
def kd (k : Nat) : Int := if k = 1 then 110 else if k = 2 then 119 else if k = 3 then 116 else 115
def PieceEnd (l : Bs) (w : World) (e : Ending) (w' : World) : Prop := Below w.heap.size w w' ∧
  ((lex1 l = none ∧ ∃ a b n, e = .returned (.tuple #[.agg #[.int .u8 a, .string b], .int .i64 n, .bool false])) ∨
    ∃ t n, lex1 l = some (t, n) ∧ e = .returned (.tuple #[.agg #[.int .u8 (kd t.k), .string (tx t.s)], .int .i64 (n : Nat), .bool true]))
theorem res_cell_tmp2 {P : Program} {fn : Func} {p q q2 : Tmp} {ty : TypeId} (h : fn.results = #[.cell p ty, .tmp q, .tmp q2]) (tmps : Array Value) (w : World) (g : Nat) (t : TypeId) (cs : Array Value) (fr : Nat × Nat) (d : TypeDesc)
    (hp : tmps.getD p undef = .pointer (some ⟨g, 0, none⟩)) (hg : w.heap[g]? = some (.cells cs t fr))
    (hu : P.underlying ty = some d) (hd : (match d with | .struct _ | .array _ _ => true | _ => false) = true) (hi : (P.info? ty).map (·.size) = some cs.size) :
    (results fn tmps).run P w = .ok (.tuple #[.agg cs, tmps.getD q undef, tmps.getD q2 undef]) w := by
  have hp' : tmps[p]?.getD undef = .pointer (some ⟨g, 0, none⟩) := by simpa using hp
  simp [results, h, hp', asAddr, run_loadVar_row w g t ty cs fr d hg hu hd hi]
theorem bel1 (w : World) (o : Obj) : Below w.heap.size w (w.alloc o) := (Below.refl _ _).alloc (Nat.le_refl _) _
theorem tx_pre (l : Bs) (n : Nat) : (tx l).extract 0 n = tx (l.take n) := by rw [tx_extract]; simp
set_option maxRecDepth 100000 in
set_option maxHeartbeats 4000000 in
theorem rpiece_word (l : Bs) (hl : l.length ≤ 1000000) (h0 : isDig (l.getD 0 0) = false) (h1 : isLet (l.getD 0 0) = true) (w : World) : Calls Tryz.prog 32 #[.string (tx l)] w (PieceEnd l w) := by
  have HS := Lib.hid (tx_size' l)
  have hpos : 0 < l.length := getD_zero (l := l) (i := 0) (fun e => by rw [e] at h1; exact absurd h1 (by decide))
  have p0 : 0 < (tx l).size := by have := HS.out; omega
  have HC := Lib.hid (takeWhile_le isWrd l)
  have HCW := Lib.hid (cntWrd_first h1)
  have HL := Lib.hid hl
  have HT := Lib.hid (fun i (hi : i < l.length) => tx_at l i hi)
  have HLEX := Lib.hid (lex1_word h0 h1)
  rw [← HCW.out] at HLEX
  have HX0 := Lib.hid (tx_at l 0 hpos)
  have HI1 : Hid (∀ W, Calls Tryz.prog 57 #[.int .u8 (((tx l)[0]'p0).toNat : Int)] W fun e w' => e = .returned (.bool false) ∧ W = w') := Lib.hid (fun W => by rw [HX0.out, ← h0]; exact rdigit _ W)
  have HI2 : Hid (∀ W, Calls Tryz.prog 59 #[.int .u8 (((tx l)[0]'p0).toNat : Int)] W fun e w' => e = .returned (.bool true) ∧ W = w') := Lib.hid (fun W => by rw [HX0.out, ← h1]; exact rletter _ W)
  have HW1 := Lib.hid (show 1 ≤ cntWrd l by have := HCW.out; omega)
  clear hl h0 h1
  go_enter Tryz.func32, Tryz.ntmps32
  go_wp2_with (first | (go_at_call 57; refine (HI1.out _).mono ?_; rintro e w1 ⟨rfl, rfl⟩) | (go_at_call 59; refine (HI2.out _).mono ?_; rintro e w1 ⟨rfl, rfl⟩))
  go_loopg [9] (l.length - 1) (fun gh i wr => ∃ j : Nat, i = .int .i64 j ∧ 1 ≤ j ∧ j + gh = l.length ∧ Hid (j ≤ cntWrd l) ∧ (w.alloc (.cells #[.int .u8 0, .string ⟨#[]⟩] 76)) = wr)
  case atStart => exact ⟨1, rfl, by omega, by omega, HW1, rfl⟩
  case round =>
    obtain ⟨j, rfl, j1, hj, hc, rfl⟩ := hrel
    have jl : j ≤ 1000000 := by have := HL.out; omega
    by_cases q1 : j < (tx l).size
    · have q1' : j < l.length := by have := HS.out; omega
      have HX := Lib.hid (HT.out j q1')
      have HA := Lib.hid (takeWhile_at isWrd l j hc.out q1')
      cases q2 : isWrd (l.getD j 0)
      · have HV : Hid (j = cntWrd l) := Lib.hid (HA.out.2 q2)
        have v1 : isLet (l.getD j 0) = false ∧ isDig (l.getD j 0) = false ∧ l.getD j 0 ≠ 95 := by simpa [isWrd, and_assoc] using q2
        have HL2 : Hid (∀ W, Calls Tryz.prog 59 #[.int .u8 (((tx l)[j]'q1).toNat : Int)] W fun e w' => e = .returned (.bool false) ∧ W = w') := Lib.hid (fun W => by rw [HX.out, ← v1.1]; exact rletter _ W)
        have HD2 : Hid (∀ W, Calls Tryz.prog 57 #[.int .u8 (((tx l)[j]'q1).toNat : Int)] W fun e w' => e = .returned (.bool false) ∧ W = w') := Lib.hid (fun W => by rw [HX.out, ← v1.2.1]; exact rdigit _ W)
        have z : ((((tx l)[j]'q1).toNat : Int) == 95) = false := by
          have := ne_nat (c := (tx l)[j]'q1) (v := 95) (by rw [HX.out]; exact v1.2.2)
          simpa using this
        have z2 : ¬ (((tx l)[j]'q1).toNat : Int) = 95 := by simpa using z
        clear q2 v1 HA
        go_wp2_with (first | (go_at_call 59; refine (HL2.out _).mono ?_; rintro e w1 ⟨rfl, rfl⟩) | (go_at_call 57; refine (HD2.out _).mono ?_; rintro e w1 ⟨rfl, rfl⟩))
        go_wp2
        have HBW := bel1 w (.cells #[.int .u8 119, .string ((tx l).extract 0 j)] 76)
        refine bodyPost_ret (res_cell_tmp2 rfl _ _ w.heap.size 76 _ _ _ rfl (heap_alloc_new w _) Tryz.underlying76 rfl (by kernel_rfl)) rfl ?_
        rw [tx_pre] at HBW
        rw [tx_pre]
        exact ⟨HBW, .inr ⟨_, j, by rw [HLEX.out, ← HV.out], rfl⟩⟩
      · have HV : Hid (j + 1 ≤ cntWrd l) := Lib.hid (HA.out.1 q2)
        cases v1 : isLet (l.getD j 0)
        · have HL2 : Hid (∀ W, Calls Tryz.prog 59 #[.int .u8 (((tx l)[j]'q1).toNat : Int)] W fun e w' => e = .returned (.bool false) ∧ W = w') := Lib.hid (fun W => by rw [HX.out, ← v1]; exact rletter _ W)
          cases v2 : isDig (l.getD j 0)
          · have HD2 : Hid (∀ W, Calls Tryz.prog 57 #[.int .u8 (((tx l)[j]'q1).toNat : Int)] W fun e w' => e = .returned (.bool false) ∧ W = w') := Lib.hid (fun W => by rw [HX.out, ← v2]; exact rdigit _ W)
            have v3 : l.getD j 0 = 95 := wrd_95 q2 v1 v2
            have z : ((((tx l)[j]'q1).toNat : Int) == 95) = true := by
              have : (((tx l)[j]'q1).toNat : Int) = 95 := toNat_of (HX.out.trans v3)
              simpa using this
            clear v1 v2 v3 HA q2
            go_wp2_with (first | (go_at_call 59; refine (HL2.out _).mono ?_; rintro e w1 ⟨rfl, rfl⟩) | (go_at_call 57; refine (HD2.out _).mono ?_; rintro e w1 ⟨rfl, rfl⟩))
            go_wp2
            go_roundg (gk - 1)
            case measure => omega
            case rel => exact ⟨j + 1, by go_num, by omega, by omega, Lib.hid HV.out, rfl⟩
          · have HD2 : Hid (∀ W, Calls Tryz.prog 57 #[.int .u8 (((tx l)[j]'q1).toNat : Int)] W fun e w' => e = .returned (.bool true) ∧ W = w') := Lib.hid (fun W => by rw [HX.out, ← v2]; exact rdigit _ W)
            clear v1 v2 HA q2
            go_wp2_with (first | (go_at_call 59; refine (HL2.out _).mono ?_; rintro e w1 ⟨rfl, rfl⟩) | (go_at_call 57; refine (HD2.out _).mono ?_; rintro e w1 ⟨rfl, rfl⟩))
            go_wp2
            go_roundg (gk - 1)
            case measure => omega
            case rel => exact ⟨j + 1, by go_num, by omega, by omega, Lib.hid HV.out, rfl⟩
        · have HL2 : Hid (∀ W, Calls Tryz.prog 59 #[.int .u8 (((tx l)[j]'q1).toNat : Int)] W fun e w' => e = .returned (.bool true) ∧ W = w') := Lib.hid (fun W => by rw [HX.out, ← v1]; exact rletter _ W)
          have HD2 := HL2
          clear v1 HA q2
          go_wp2_with (first | (go_at_call 59; refine (HL2.out _).mono ?_; rintro e w1 ⟨rfl, rfl⟩) | (go_at_call 57; refine (HD2.out _).mono ?_; rintro e w1 ⟨rfl, rfl⟩))
          go_wp2
          go_roundg (gk - 1)
          case measure => omega
          case rel => exact ⟨j + 1, by go_num, by omega, by omega, Lib.hid HV.out, rfl⟩
    · have HV : Hid (j = cntWrd l) := Lib.hid (by have h1 := HS.out; have h2 := HC.out; have h3 := hc.out; unfold cntWrd at *; omega)
      have q2 : ¬ (j : Int) < ((tx l).size : Int) := by omega
      have q3 : j ≤ (tx l).size := by have := HS.out; omega
      go_wp2
      have HBW := bel1 w (.cells #[.int .u8 119, .string ((tx l).extract 0 j)] 76)
      refine bodyPost_ret (res_cell_tmp2 rfl _ _ w.heap.size 76 _ _ _ rfl (heap_alloc_new w _) Tryz.underlying76 rfl (by kernel_rfl)) rfl ?_
      rw [tx_pre] at HBW
      rw [tx_pre]
      exact ⟨HBW, .inr ⟨_, j, by rw [HLEX.out, ← HV.out], rfl⟩⟩
end Go.Proofs.YtmhfnpabgkkjaaaGreat
/- Walks: the reference's piece: texts, signs, numbers. -/
namespace Go.Proofs.YtmhfnpabgkkjaaaGreat
open Go.RowKit Go.Shelf
set_option maxRecDepth 100000 in
set_option maxHeartbeats 4000000 in
theorem rpiece_txt (l : Bs) (hl : l.length ≤ 1000000) (h39 : l.getD 0 0 = 39) (w : World) : Calls Tryz.prog 32 #[.string (tx l)] w (PieceEnd l w) := by
  have h0 : isDig (l.getD 0 0) = false := by rw [h39]; decide
  have h1 : isLet (l.getD 0 0) = false := by rw [h39]; decide
  have hpos : 0 < l.length := getD_zero (l := l) (i := 0) (by rw [h39]; decide)
  have HS := Lib.hid (tx_size' l)
  have p0 : 0 < (tx l).size := by have := HS.out; omega
  have HL := Lib.hid hl
  have HT := Lib.hid (fun i (hi : i < l.length) => tx_at l i hi)
  have HX0 := Lib.hid (tx_at l 0 hpos)
  have HI1 : Hid (∀ W, Calls Tryz.prog 57 #[.int .u8 (((tx l)[0]'p0).toNat : Int)] W fun e w' => e = .returned (.bool false) ∧ W = w') := Lib.hid (fun W => by rw [HX0.out, ← h0]; exact rdigit _ W)
  have HI2 : Hid (∀ W, Calls Tryz.prog 59 #[.int .u8 (((tx l)[0]'p0).toNat : Int)] W fun e w' => e = .returned (.bool false) ∧ W = w') := Lib.hid (fun W => by rw [HX0.out, ← h1]; exact rletter _ W)
  have z0 : ((((tx l)[0]'p0).toNat : Int) == 39) = true := by
    have : (((tx l)[0]'p0).toNat : Int) = 39 := toNat_of (HX0.out.trans h39)
    simpa using this
  have HLEX := Lib.hid (lex1_text h39)
  have HTW := Lib.hid (takeWhile_le (fun c => c != 39) (l.drop 1))
  clear hl h0 h1 h39
  go_enter Tryz.func32, Tryz.ntmps32
  go_wp2_with (first | (go_at_call 57; refine (HI1.out _).mono ?_; rintro e w1 ⟨rfl, rfl⟩) | (go_at_call 59; refine (HI2.out _).mono ?_; rintro e w1 ⟨rfl, rfl⟩))
  go_loopg [10] (l.length - 1) (fun gh i wr => ∃ j : Nat, i = .int .i64 j ∧ 1 ≤ j ∧ j + gh = l.length ∧ Hid (j - 1 ≤ cntTxt (l.drop 1)) ∧ (w.alloc (.cells #[.int .u8 0, .string ⟨#[]⟩] 76)) = wr)
  case atStart => exact ⟨1, rfl, by omega, by omega, Lib.hid (Nat.zero_le _), rfl⟩
  case round =>
    obtain ⟨j, rfl, j1, hj, hc, rfl⟩ := hrel
    have jl : j ≤ 1000000 := by have := HL.out; omega
    by_cases q1 : j < (tx l).size
    · have q1' : j < l.length := by have := HS.out; omega
      have HX := Lib.hid (HT.out j q1')
      have HA := Lib.hid (takeWhile_at (fun c => c != 39) (l.drop 1) (j - 1) hc.out (by simp; omega))
      rw [getD_drop, show 1 + (j - 1) = j by omega] at HA
      by_cases q2 : l.getD j 0 = 39
      · have HV : Hid (j - 1 = cntTxt (l.drop 1)) := Lib.hid (HA.out.2 (by rw [q2]; decide))
        have z : (((tx l)[j]'q1).toNat : Int) = 39 := toNat_of (HX.out.trans q2)
        have q3 : j ≤ (tx l).size := by omega
        clear q2 HA
        go_wp2
        have HBW := bel1 w (.cells #[.int .u8 116, .string ((tx l).extract 1 j)] 76)
        refine bodyPost_ret (res_cell_tmp2 rfl _ _ w.heap.size 76 _ _ _ rfl (heap_alloc_new w _) Tryz.underlying76 rfl (by kernel_rfl)) rfl ?_
        rw [tx_extract] at HBW
        rw [tx_extract]
        exact ⟨HBW, .inr ⟨_, j + 1, by rw [HLEX.out, ← HV.out, if_pos (by rw [List.length_drop]; omega), show j - 1 + 2 = j + 1 by omega], rfl⟩⟩
      · have HV : Hid (j + 1 - 1 ≤ cntTxt (l.drop 1)) := Lib.hid (by have h : j - 1 + 1 ≤ cntTxt (l.drop 1) := HA.out.1 (by simpa using q2); omega)
        have z : ¬ (((tx l)[j]'q1).toNat : Int) = 39 := ne_nat (c := (tx l)[j]'q1) (v := 39) (by rw [HX.out]; exact q2)
        clear q2 HA
        go_wp2
        go_roundg (gk - 1)
        case measure => omega
        case rel => exact ⟨j + 1, by go_num, by omega, by omega, HV, rfl⟩
    · have q2 : ¬ (j : Int) < ((tx l).size : Int) := by omega
      have HV : Hid (¬ cntTxt (l.drop 1) < (l.drop 1).length) := Lib.hid (by
        have h1 := HS.out
        have h2 := hc.out
        rw [List.length_drop]
        omega)
      go_wp2
      refine bodyPost_ret (res_cell_tmp2 rfl _ _ w.heap.size 76 _ _ _ rfl (heap_alloc_new w _) Tryz.underlying76 rfl (by kernel_rfl)) rfl ?_
      exact ⟨bel1 w _, .inl ⟨by rw [HLEX.out, if_neg HV.out], _, _, _, rfl⟩⟩
set_option maxRecDepth 100000 in
set_option maxHeartbeats 4000000 in
theorem rpiece_two (l : Bs) (hl : l.length ≤ 1000000) (h2 : isTwo (l.getD 0 0) (l.getD 1 0) = true) (w : World) : Calls Tryz.prog 32 #[.string (tx l)] w (PieceEnd l w) := by
  have h3 : l.getD 1 0 = 61 ∧ (l.getD 0 0 = 33 ∨ l.getD 0 0 = 60 ∨ l.getD 0 0 = 62) := by simpa [isTwo, or_assoc] using h2
  have hp1 : 1 < l.length := getD_zero (l := l) (i := 1) (by rw [h3.1]; decide)
  have hpos : 0 < l.length := by omega
  have h0 : isDig (l.getD 0 0) = false := by rcases h3.2 with h | h | h <;> rw [h] <;> decide
  have h1 : isLet (l.getD 0 0) = false := by rcases h3.2 with h | h | h <;> rw [h] <;> decide
  have HS := Lib.hid (tx_size' l)
  have p0 : 0 < (tx l).size := by have := HS.out; omega
  have HL := Lib.hid hl
  have HT := Lib.hid (fun i (hi : i < l.length) => tx_at l i hi)
  have HX0 := Lib.hid (tx_at l 0 hpos)
  have HI1 : Hid (∀ W, Calls Tryz.prog 57 #[.int .u8 (((tx l)[0]'p0).toNat : Int)] W fun e w' => e = .returned (.bool false) ∧ W = w') := Lib.hid (fun W => by rw [HX0.out, ← h0]; exact rdigit _ W)
  have HI2 : Hid (∀ W, Calls Tryz.prog 59 #[.int .u8 (((tx l)[0]'p0).toNat : Int)] W fun e w' => e = .returned (.bool false) ∧ W = w') := Lib.hid (fun W => by rw [HX0.out, ← h1]; exact rletter _ W)
  have p1 : 1 < (tx l).size := by have := HS.out; omega
  have HX1 := Lib.hid (tx_at l 1 hp1)
  have HLEX : Hid (lex1 l = some (⟨4, l.take 2⟩, 2)) := Lib.hid (by
    rw [lex1_sign (fun h => by rw [h] at hpos; cases hpos) h0 h1 (by rcases h3.2 with h | h | h <;> rw [h] <;> decide), if_pos h2])
  have y1 : (((tx l)[1]'p1).toNat : Int) = 61 := toNat_of (HX1.out.trans h3.1)
  have h4 := h3.2
  clear hl h0 h1 h2 h3
  rcases h4 with h4 | h4 | h4
  · have z0 : ((((tx l)[0]'p0).toNat : Int) == 39) = false := by
      have : (((tx l)[0]'p0).toNat : Int) = 33 := toNat_of (HX0.out.trans h4)
      simp [this]
    have zv : ((((tx l)[0]'p0).toNat : Int) == 33) = true := by
      have : (((tx l)[0]'p0).toNat : Int) = 33 := toNat_of (HX0.out.trans h4)
      simp [this]
    clear h4
    go_enter Tryz.func32, Tryz.ntmps32
    go_wp2_with (first | (go_at_call 57; refine (HI1.out _).mono ?_; rintro e w1 ⟨rfl, rfl⟩) | (go_at_call 59; refine (HI2.out _).mono ?_; rintro e w1 ⟨rfl, rfl⟩))
    go_wp2
    have HBW := bel1 w (.cells #[.int .u8 115, .string ((tx l).extract 0 2)] 76)
    refine bodyPost_ret (res_cell_tmp2 rfl _ _ w.heap.size 76 _ _ _ rfl (heap_alloc_new w _) Tryz.underlying76 rfl (by kernel_rfl)) rfl ?_
    rw [tx_pre] at HBW
    rw [tx_pre]
    exact ⟨HBW, .inr ⟨_, 2, HLEX.out, rfl⟩⟩
  · have z0 : ((((tx l)[0]'p0).toNat : Int) == 39) = false := by
      have : (((tx l)[0]'p0).toNat : Int) = 60 := toNat_of (HX0.out.trans h4)
      simp [this]
    have zv : ((((tx l)[0]'p0).toNat : Int) == 60) = true := by
      have : (((tx l)[0]'p0).toNat : Int) = 60 := toNat_of (HX0.out.trans h4)
      simp [this]
    have zn33 : ((((tx l)[0]'p0).toNat : Int) == 33) = false := by
      have : (((tx l)[0]'p0).toNat : Int) = 60 := toNat_of (HX0.out.trans h4)
      simp [this]
    clear h4
    go_enter Tryz.func32, Tryz.ntmps32
    go_wp2_with (first | (go_at_call 57; refine (HI1.out _).mono ?_; rintro e w1 ⟨rfl, rfl⟩) | (go_at_call 59; refine (HI2.out _).mono ?_; rintro e w1 ⟨rfl, rfl⟩))
    go_wp2
    have HBW := bel1 w (.cells #[.int .u8 115, .string ((tx l).extract 0 2)] 76)
    refine bodyPost_ret (res_cell_tmp2 rfl _ _ w.heap.size 76 _ _ _ rfl (heap_alloc_new w _) Tryz.underlying76 rfl (by kernel_rfl)) rfl ?_
    rw [tx_pre] at HBW
    rw [tx_pre]
    exact ⟨HBW, .inr ⟨_, 2, HLEX.out, rfl⟩⟩
  · have z0 : ((((tx l)[0]'p0).toNat : Int) == 39) = false := by
      have : (((tx l)[0]'p0).toNat : Int) = 62 := toNat_of (HX0.out.trans h4)
      simp [this]
    have zv : ((((tx l)[0]'p0).toNat : Int) == 62) = true := by
      have : (((tx l)[0]'p0).toNat : Int) = 62 := toNat_of (HX0.out.trans h4)
      simp [this]
    have zn33 : ((((tx l)[0]'p0).toNat : Int) == 33) = false := by
      have : (((tx l)[0]'p0).toNat : Int) = 62 := toNat_of (HX0.out.trans h4)
      simp [this]
    have zn60 : ((((tx l)[0]'p0).toNat : Int) == 60) = false := by
      have : (((tx l)[0]'p0).toNat : Int) = 62 := toNat_of (HX0.out.trans h4)
      simp [this]
    clear h4
    go_enter Tryz.func32, Tryz.ntmps32
    go_wp2_with (first | (go_at_call 57; refine (HI1.out _).mono ?_; rintro e w1 ⟨rfl, rfl⟩) | (go_at_call 59; refine (HI2.out _).mono ?_; rintro e w1 ⟨rfl, rfl⟩))
    go_wp2
    have HBW := bel1 w (.cells #[.int .u8 115, .string ((tx l).extract 0 2)] 76)
    refine bodyPost_ret (res_cell_tmp2 rfl _ _ w.heap.size 76 _ _ _ rfl (heap_alloc_new w _) Tryz.underlying76 rfl (by kernel_rfl)) rfl ?_
    rw [tx_pre] at HBW
    rw [tx_pre]
    exact ⟨HBW, .inr ⟨_, 2, HLEX.out, rfl⟩⟩
/-- The signs of one byte. -/
def ones : Bs := [61, 60, 62, 43, 45, 42, 47, 40, 41, 44]
theorem isOne_ones (c : UInt8) : isOne c = decide (c ∈ ones) := by
  unfold isOne ones
  rw [Bool.eq_iff_iff]
  simp [or_assoc]
set_option maxRecDepth 100000 in
set_option maxHeartbeats 4000000 in
theorem rpiece_one (l : Bs) (hl : l.length ≤ 1000000) (hpos : 0 < l.length) (h0 : isDig (l.getD 0 0) = false) (h1 : isLet (l.getD 0 0) = false) (h39 : l.getD 0 0 ≠ 39) (h2 : isTwo (l.getD 0 0) (l.getD 1 0) = false) (w : World) : Calls Tryz.prog 32 #[.string (tx l)] w (PieceEnd l w) := by
  have HS := Lib.hid (tx_size' l)
  have p0 : 0 < (tx l).size := by have := HS.out; omega
  have HL := Lib.hid hl
  have HT := Lib.hid (fun i (hi : i < l.length) => tx_at l i hi)
  have HX0 := Lib.hid (tx_at l 0 hpos)
  have HI1 : Hid (∀ W, Calls Tryz.prog 57 #[.int .u8 (((tx l)[0]'p0).toNat : Int)] W fun e w' => e = .returned (.bool false) ∧ W = w') := Lib.hid (fun W => by rw [HX0.out, ← h0]; exact rdigit _ W)
  have HI2 : Hid (∀ W, Calls Tryz.prog 59 #[.int .u8 (((tx l)[0]'p0).toNat : Int)] W fun e w' => e = .returned (.bool false) ∧ W = w') := Lib.hid (fun W => by rw [HX0.out, ← h1]; exact rletter _ W)
  have z0 : ((((tx l)[0]'p0).toNat : Int) == 39) = false := by
    have := ne_nat (c := (tx l)[0]'p0) (v := 39) (by rw [HX0.out]; exact h39)
    simpa using this
  have HLEX : Hid (lex1 l = if l.getD 0 0 ∈ ones then some (⟨4, l.take 1⟩, 1) else none) := Lib.hid (by
    rw [lex1_sign (fun h => by rw [h] at hpos; cases hpos) h0 h1 h39, if_neg (by rw [h2]; decide), isOne_ones]
    simp only [decide_eq_true_eq])
  -- the test of the two-byte signs fails
  have hno : (∀ p1 : 1 < (tx l).size, ((((tx l)[1]'p1).toNat : Int) == 61) = false) ∨ (((((tx l)[0]'p0).toNat : Int) == 33) = false ∧ ((((tx l)[0]'p0).toNat : Int) == 60) = false ∧ ((((tx l)[0]'p0).toNat : Int) == 62) = false) := by
    by_cases hd : l.getD 1 0 = 61
    · refine .inr ?_
      unfold isTwo at h2
      rw [hd] at h2
      simp only [beq_self_eq_true, Bool.true_and, Bool.or_eq_false_iff, beq_eq_false_iff_ne] at h2
      have e1 := ne_nat (c := (tx l)[0]'p0) (v := 33) (by rw [HX0.out]; exact h2.1.1)
      have e2 := ne_nat (c := (tx l)[0]'p0) (v := 60) (by rw [HX0.out]; exact h2.1.2)
      have e3 := ne_nat (c := (tx l)[0]'p0) (v := 62) (by rw [HX0.out]; exact h2.2)
      exact ⟨by simpa using e1, by simpa using e2, by simpa using e3⟩
    · refine .inl (fun p1 => ?_)
      have e := ne_nat (c := (tx l)[1]'p1) (v := 61) (by rw [tx_at l 1 (by have := HS.out; omega)]; exact hd)
      simpa using e
  have HCC : Hid (∀ i (hi : i < ones.length), (((tx ones)[i]'(by rw [tx_size']; exact hi)).toNat : Int) = ((ones.getD i 0).toNat : Int)) := Lib.hid (fun i hi => by rw [tx_at ones i hi])
  have hno2 : ∀ K : Prop, (¬ 1 < (tx l).size → K) → ((p1 : 1 < (tx l).size) → ((((tx l)[1]'p1).toNat : Int) == 61) = false → K) → ((p1 : 1 < (tx l).size) → ((((tx l)[1]'p1).toNat : Int) == 61) = true → ((((tx l)[0]'p0).toNat : Int) == 33) = false → ((((tx l)[0]'p0).toNat : Int) == 60) = false → ((((tx l)[0]'p0).toNat : Int) == 62) = false → K) → K := by
    intro K k1 k2 k3
    by_cases p1 : 1 < (tx l).size
    · cases hq : ((((tx l)[1]'p1).toNat : Int) == 61)
      · exact k2 p1 hq
      · rcases hno with h | h
        · rw [h p1] at hq; cases hq
        · exact k3 p1 hq h.1 h.2.1 h.2.2
    · exact k1 p1
  clear hl h0 h1 h2 h39 hno
  refine hno2 _ (fun p1 => ?_) (fun p1 y1 => ?_) (fun p1 y1 y2 y3 y4 => ?_)
  all_goals
    clear hno2
    go_enter Tryz.func32, Tryz.ntmps32
    go_wp2_with (first | (go_at_call 57; refine (HI1.out _).mono ?_; rintro e w1 ⟨rfl, rfl⟩) | (go_at_call 59; refine (HI2.out _).mono ?_; rintro e w1 ⟨rfl, rfl⟩))
    try clear y1
    try clear y2 y3 y4
    generalize hTS : (⟨#[61, 60, 62, 43, 45, 42, 47, 40, 41, 44]⟩ : ByteArray) = TS
    have HTZ : Hid (TS.size = 10) := Lib.hid (by rw [← hTS]; rfl)
    have HTI : Hid (∀ i (h : i < TS.size), ((TS[i]'h).toNat : Int) = ((ones.getD i 0).toNat : Int)) := Lib.hid (by
      intro i h
      have e : TS = tx ones := by rw [← hTS]; rfl
      subst e
      exact HCC.out i (by rw [tx_size'] at h; exact h))
    clear hTS
    go_loopg [12] 10 (fun gh i wr => ∃ j : Nat, i = .int .i64 j ∧ j + gh = 10 ∧ Hid (∀ q, q < j → ones.getD q 0 ≠ l.getD 0 0) ∧ (w.alloc (.cells #[.int .u8 0, .string ⟨#[]⟩] 76)) = wr)
    case atStart => exact ⟨0, rfl, by omega, Lib.hid (fun q h => by omega), rfl⟩
    case round =>
      obtain ⟨j, rfl, hj, hq, rfl⟩ := hrel
      have jb : j ≤ 10 := by omega
      by_cases q1 : j < TS.size
      · have HI := Lib.hid (HTI.out j q1)
        have jlt : j < 10 := by have := HTZ.out; omega
        by_cases q2 : ones.getD j 0 = l.getD 0 0
        · have z : (((TS[j]'q1).toNat : Int) == (((tx l)[0]'p0).toNat : Int)) = true := by
            have : ((TS[j]'q1).toNat : Int) = (((tx l)[0]'p0).toNat : Int) := by rw [HI.out, q2, HX0.out]
            simpa using this
          have HM : Hid (l.getD 0 0 ∈ ones) := Lib.hid (by
            have h10 : j < ones.length := by have := HTZ.out; show j < 10; omega
            rw [← q2, List.getD_eq_getElem?_getD, List.getElem?_eq_getElem h10]
            exact List.getElem_mem _)
          clear q2
          go_wp2
          have HBW := bel1 w (.cells #[.int .u8 115, .string ((tx l).extract 0 1)] 76)
          refine bodyPost_ret (res_cell_tmp2 rfl _ _ w.heap.size 76 _ _ _ rfl (heap_alloc_new w _) Tryz.underlying76 rfl (by kernel_rfl)) rfl ?_
          rw [tx_pre] at HBW
          rw [tx_pre]
          exact ⟨HBW, .inr ⟨_, 1, by rw [HLEX.out, if_pos HM.out], rfl⟩⟩
        · have z : (((TS[j]'q1).toNat : Int) == (((tx l)[0]'p0).toNat : Int)) = false := by
            have : ¬ ((TS[j]'q1).toNat : Int) = (((tx l)[0]'p0).toNat : Int) := by
              rw [HI.out, HX0.out]
              exact ne_nat q2
            simpa using this
          have HQ2 : Hid (∀ q, q < j + 1 → ones.getD q 0 ≠ l.getD 0 0) := Lib.hid (fun q h => by
            by_cases e : q = j
            · rw [e]; exact q2
            · exact hq.out q (by omega))
          clear q2
          go_wp2
          go_roundg (gk - 1)
          case measure => omega
          case rel => exact ⟨j + 1, by go_num, by omega, HQ2, rfl⟩
      · have HM : Hid (¬ l.getD 0 0 ∈ ones) := Lib.hid (fun h => by
          obtain ⟨q, hq1, hq2⟩ := List.mem_iff_getElem.1 h
          have h10 : q < 10 := hq1
          refine hq.out q (by have := HTZ.out; omega) ?_
          rw [List.getD_eq_getElem?_getD, List.getElem?_eq_getElem hq1]
          exact hq2)
        have q2 : ¬ (j : Int) < (TS.size : Int) := by omega
        go_wp2
        refine bodyPost_ret (res_cell_tmp2 rfl _ _ w.heap.size 76 _ _ _ rfl (heap_alloc_new w _) Tryz.underlying76 rfl (by kernel_rfl)) rfl ?_
        exact ⟨bel1 w _, .inl ⟨by rw [HLEX.out, if_neg HM.out], _, _, _, rfl⟩⟩
end Go.Proofs.YtmhfnpabgkkjaaaGreat
/- Walk: the reference's piece: numbers; all of it. -/
namespace Go.Proofs.YtmhfnpabgkkjaaaGreat
open Go.RowKit Go.Shelf
set_option maxRecDepth 100000 in
set_option maxHeartbeats 4000000 in
theorem rpiece_num (l : Bs) (hl : l.length ≤ 1000000) (h0 : isDig (l.getD 0 0) = true) (w : World) : Calls Tryz.prog 32 #[.string (tx l)] w (PieceEnd l w) := by
  have hpos : 0 < l.length := getD_zero (l := l) (i := 0) (fun e => by rw [e] at h0; exact absurd h0 (by decide))
  have HS := Lib.hid (tx_size' l)
  have p0 : 0 < (tx l).size := by have := HS.out; omega
  have HL := Lib.hid hl
  have HT := Lib.hid (fun i (hi : i < l.length) => tx_at l i hi)
  have HX0 := Lib.hid (tx_at l 0 hpos)
  have HI1 : Hid (∀ W, Calls Tryz.prog 57 #[.int .u8 (((tx l)[0]'p0).toNat : Int)] W fun e w' => e = .returned (.bool true) ∧ W = w') := Lib.hid (fun W => by rw [HX0.out, ← h0]; exact rdigit _ W)
  have HD1 := Lib.hid (fun W => rdigits l hl W)
  have HCL := Lib.hid (takeWhile_le isDig l)
  have HLEX := Lib.hid (lex1_num h0)
  have HNL := Lib.hid (numLen_le l).1
  obtain ⟨p, hp⟩ : ∃ p, p = cntDig l := ⟨_, rfl⟩
  have hpl : p ≤ l.length := by have := HCL.out; unfold cntDig at hp; omega
  have HN : Hid (numLen l = if l.getD p 0 = 46 ∧ isDig (l.getD (p + 1) 0) = true then (p + 1 + cntDig (l.drop (p + 1)), p + cntDig (l.drop (p + 1)), cntDig (l.drop (p + 1))) else (p, p, 0)) := Lib.hid (by rw [hp]; rfl)
  rw [← hp] at HD1
  have pl : p ≤ 1000000 := by omega
  have HD2 : Hid (p + 1 ≤ l.length → ∀ W, Calls Tryz.prog 58 #[.string ((tx l).extract (p + 1) (tx l).size)] W fun e w' => e = .returned (.int .i64 (cntDig (l.drop (p + 1)))) ∧ W = w') := Lib.hid (fun h W => by
    rw [tx_extract, List.take_of_length_le (by rw [List.length_drop, tx_size']; omega)]
    exact rdigits _ (by rw [List.length_drop]; omega) W)
  clear hl h0 hp
  have HBAD : Hid (¬ ((numLen l).2.1 ≤ 15 ∧ (numLen l).2.2 ≤ 6) → lex1 l = none) := Lib.hid (fun h => by rw [HLEX.out, if_neg h])
  have HGOOD : Hid ((numLen l).2.1 ≤ 15 ∧ (numLen l).2.2 ≤ 6 → lex1 l = some (⟨1, l.take (numLen l).1⟩, (numLen l).1)) := Lib.hid (fun h => by rw [HLEX.out, if_pos h])
  clear HLEX
  by_cases q : p + 1 < (tx l).size ∧ l.getD p 0 = 46 ∧ isDig (l.getD (p + 1) 0) = true
  · obtain ⟨q1, q2, q3⟩ := q
    have x1 : p < (tx l).size := by omega
    have l1 : p + 1 < l.length := by have := HS.out; omega
    have HXp := Lib.hid (tx_at l p (by omega))
    have HXq := Lib.hid (tx_at l (p + 1) l1)
    have z1 : (((tx l)[p]'x1).toNat : Int) = 46 := toNat_of (HXp.out.trans q2)
    have HDd : Hid (∀ W, Calls Tryz.prog 57 #[.int .u8 (((tx l)[p + 1]'q1).toNat : Int)] W fun e w' => e = .returned (.bool true) ∧ W = w') := Lib.hid (fun W => by rw [HXq.out, ← q3]; exact rdigit _ W)
    have HCL2 := Lib.hid (takeWhile_le isDig (l.drop (p + 1)))
    rw [List.length_drop] at HCL2
    obtain ⟨b, hb⟩ : ∃ b, b = cntDig (l.drop (p + 1)) := ⟨_, rfl⟩
    have HV : Hid (numLen l = (p + 1 + b, p + b, b)) := Lib.hid (by rw [HN.out, if_pos ⟨q2, q3⟩, hb])
    have HD3 := Lib.hid (HD2.out (by omega))
    rw [← hb] at HD3
    have bl : b ≤ 1000000 := by have := HCL2.out; unfold cntDig at hb; have := HL.out; omega
    rw [HV.out] at HNL HBAD HGOOD
    have nl : p + 1 + b ≤ (tx l).size := by have h1 : p + 1 + b ≤ l.length := HNL.out; have := HS.out; omega
    have hmx : max (0 : Int) ((p : Int) + 1 + (b : Int) - (p : Int) - 1) = (b : Int) := by omega
    have i4 : (p : Int) + 1 ≤ ((tx l).size : Int) := by omega
    clear q2 q3 hb HN HD2
    go_enter Tryz.func32, Tryz.ntmps32
    by_cases t1 : p + b ≤ 15
    · have t1' : (p : Int) + (b : Int) ≤ 15 := by omega
      by_cases t2 : b ≤ 6
      · have t2i : (b : Int) ≤ 6 := by omega
        go_wp2_with (first | (go_at_call 58; (with_reducible refine (HD1.out _).mono ?_); rintro e w1 ⟨rfl, rfl⟩) | (go_at_call 58; (with_reducible refine (HD3.out _).mono ?_); rintro e w1 ⟨rfl, rfl⟩) | (go_at_call 57; (with_reducible refine (HI1.out _).mono ?_); rintro e w1 ⟨rfl, rfl⟩) | (go_at_call 57; (with_reducible refine (HDd.out _).mono ?_); rintro e w1 ⟨rfl, rfl⟩))
        have HBW := bel1 w (.cells #[.int .u8 110, .string ((tx l).extract 0 (p + 1 + b))] 76)
        refine bodyPost_ret (res_cell_tmp2 rfl _ _ w.heap.size 76 _ _ _ rfl (heap_alloc_new w _) Tryz.underlying76 rfl (by kernel_rfl)) rfl ?_
        rw [tx_pre] at HBW
        rw [tx_pre]
        exact ⟨HBW, .inr ⟨_, p + 1 + b, HGOOD.out ⟨t1, t2⟩, rfl⟩⟩
      · have t2i : ¬ (b : Int) ≤ 6 := by omega
        go_wp2_with (first | (go_at_call 58; (with_reducible refine (HD1.out _).mono ?_); rintro e w1 ⟨rfl, rfl⟩) | (go_at_call 58; (with_reducible refine (HD3.out _).mono ?_); rintro e w1 ⟨rfl, rfl⟩) | (go_at_call 57; (with_reducible refine (HI1.out _).mono ?_); rintro e w1 ⟨rfl, rfl⟩) | (go_at_call 57; (with_reducible refine (HDd.out _).mono ?_); rintro e w1 ⟨rfl, rfl⟩))
        refine bodyPost_ret (res_cell_tmp2 rfl _ _ w.heap.size 76 _ _ _ rfl (heap_alloc_new w _) Tryz.underlying76 rfl (by kernel_rfl)) rfl ?_
        refine ⟨bel1 w _, .inl ⟨HBAD.out (fun h => t2 h.2), 110, (tx l).extract 0 (p + 1 + b), ((p + 1 + b : Nat) : Int), ?_⟩⟩
        have t2d : decide ((b : Int) ≤ 6) = false := decide_eq_false (by omega)
        show Ending.returned (.tuple #[_, _, .bool (decide ((b : Int) ≤ 6))]) = _
        rw [t2d]
        rfl
    · have t1' : ¬ (p : Int) + (b : Int) ≤ 15 := by omega
      go_wp2_with (first | (go_at_call 58; (with_reducible refine (HD1.out _).mono ?_); rintro e w1 ⟨rfl, rfl⟩) | (go_at_call 58; (with_reducible refine (HD3.out _).mono ?_); rintro e w1 ⟨rfl, rfl⟩) | (go_at_call 57; (with_reducible refine (HI1.out _).mono ?_); rintro e w1 ⟨rfl, rfl⟩) | (go_at_call 57; (with_reducible refine (HDd.out _).mono ?_); rintro e w1 ⟨rfl, rfl⟩))
      refine bodyPost_ret (res_cell_tmp2 rfl _ _ w.heap.size 76 _ _ _ rfl (heap_alloc_new w _) Tryz.underlying76 rfl (by kernel_rfl)) rfl ?_
      exact ⟨bel1 w _, .inl ⟨HBAD.out (fun h => t1 h.1), _, _, _, rfl⟩⟩
  · have HV : Hid (numLen l = (p, p, 0)) := Lib.hid (by
      rw [HN.out, if_neg]
      intro h
      refine q ⟨?_, h⟩
      have := getD_zero (l := l) (i := p + 1) (fun e => by rw [e] at h; exact absurd h.2 (by decide))
      have := HS.out
      omega)
    rw [HV.out] at HNL HBAD HGOOD
    have nl : p ≤ (tx l).size := by have := HS.out; omega
    have hmx : max (0 : Int) ((p : Int) - (p : Int) - 1) = 0 := by omega
    have hmx2 : max (0 : Int) (-1) = 0 := by omega
    have hq : ∀ K : Prop, (¬ p + 1 < (tx l).size → K) → ((q1 : p + 1 < (tx l).size) → ¬ (((tx l)[p]'(by omega)).toNat : Int) = 46 → K) → ((q1 : p + 1 < (tx l).size) → (((tx l)[p]'(by omega)).toNat : Int) = 46 → (∀ W, Calls Tryz.prog 57 #[.int .u8 (((tx l)[p + 1]'q1).toNat : Int)] W fun e w' => e = .returned (.bool false) ∧ W = w') → K) → K := by
      intro K k1 k2 k3
      by_cases q1 : p + 1 < (tx l).size
      · have l1 : p + 1 < l.length := by have := HS.out; omega
        have e0 := tx_at l p (by omega)
        by_cases q2 : l.getD p 0 = 46
        · refine k3 q1 (toNat_of (e0.trans q2)) (fun W => ?_)
          have q3 : isDig (l.getD (p + 1) 0) = false := by
            cases h : isDig (l.getD (p + 1) 0)
            · rfl
            · exact absurd ⟨q1, q2, h⟩ q
          rw [tx_at l (p + 1) l1, ← q3]
          exact rdigit _ W
        · exact k2 q1 (ne_nat (c := (tx l)[p]'(by omega)) (v := 46) (by rw [e0]; exact q2))
      · exact k1 q1
    clear q HN HD2
    refine hq _ (fun q1 => ?_) (fun q1 z1 => ?_) (fun q1 z1 hdd => ?_)
    all_goals
      clear hq
      have x1 : 0 ≤ (p : Int) + 1 := by omega
      try have HDd := Lib.hid hdd
      try clear hdd
      go_enter Tryz.func32, Tryz.ntmps32
      by_cases t1 : p ≤ 15
      · have t2 : 0 ≤ 6 := by decide
        go_wp2_with (first | (go_at_call 58; (with_reducible refine (HD1.out _).mono ?_); rintro e w1 ⟨rfl, rfl⟩) | (go_at_call 57; (with_reducible refine (HI1.out _).mono ?_); rintro e w1 ⟨rfl, rfl⟩) | (go_at_call 57; (with_reducible refine (HDd.out _).mono ?_); rintro e w1 ⟨rfl, rfl⟩))
        have HBW := bel1 w (.cells #[.int .u8 110, .string ((tx l).extract 0 (p))] 76)
        refine bodyPost_ret (res_cell_tmp2 rfl _ _ w.heap.size 76 _ _ _ rfl (heap_alloc_new w _) Tryz.underlying76 rfl (by kernel_rfl)) rfl ?_
        rw [tx_pre] at HBW
        rw [tx_pre]
        exact ⟨HBW, .inr ⟨_, p, HGOOD.out ⟨t1, t2⟩, rfl⟩⟩
      · go_wp2_with (first | (go_at_call 58; (with_reducible refine (HD1.out _).mono ?_); rintro e w1 ⟨rfl, rfl⟩) | (go_at_call 57; (with_reducible refine (HI1.out _).mono ?_); rintro e w1 ⟨rfl, rfl⟩) | (go_at_call 57; (with_reducible refine (HDd.out _).mono ?_); rintro e w1 ⟨rfl, rfl⟩))
        refine bodyPost_ret (res_cell_tmp2 rfl _ _ w.heap.size 76 _ _ _ rfl (heap_alloc_new w _) Tryz.underlying76 rfl (by kernel_rfl)) rfl ?_
        exact ⟨bel1 w _, .inl ⟨HBAD.out (fun h => t1 h.1), _, _, _, rfl⟩⟩
/-- The reference's first piece. -/
theorem rpiece (l : Bs) (hl : l.length ≤ 1000000) (hpos : 0 < l.length) (w : World) : Calls Tryz.prog 32 #[.string (tx l)] w (PieceEnd l w) := by
  cases h0 : isDig (l.getD 0 0)
  · cases h1 : isLet (l.getD 0 0)
    · by_cases h39 : l.getD 0 0 = 39
      · exact rpiece_txt l hl h39 w
      · cases h2 : isTwo (l.getD 0 0) (l.getD 1 0)
        · exact rpiece_one l hl hpos h0 h1 h39 h2 w
        · exact rpiece_two l hl h2 w
    · exact rpiece_word l hl h0 h1 w
  · exact rpiece_num l hl h0 w
end Go.Proofs.YtmhfnpabgkkjaaaGreat
