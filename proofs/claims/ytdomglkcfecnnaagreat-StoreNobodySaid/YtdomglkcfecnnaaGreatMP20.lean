/- Own texts, merged: Q5. -/
import Derived.Test.YtdomglkcfecnnaaGreatMP19
/- Walk: next. -/
namespace Go.Proofs.YtdomglkcfecnnaaGreat
open Go.RowKit Go.Shelf
/-- Where the next piece begins. -/
def blAt (s : Bs) (a : Nat) : Nat := a + cntBl (s.drop a)
/-- What next does, from the place behind the blanks. -/
def QNext (r : Nat) (s : Bs) (b : Nat) (w : World) (e : Ending) (w' : World) : Prop :=
  But [r] w w' ∧ ((s.length ≤ b ∧ e = .returned (.tuple #[]) ∧ Rd w' r s b 0 []) ∨
    (b < s.length ∧ ((lex1 (s.drop b) = none ∧ Pan e) ∨ (∃ t n, lex1 (s.drop b) = some (t, n) ∧ e = .returned (.tuple #[]) ∧ Rd w' r s (b + n) t.k t.s))))
theorem lex1_num {l : Bs} (h : isDig (l.getD 0 0) = true) : lex1 l = if (numLen l).2.1 ≤ 15 ∧ (numLen l).2.2 ≤ 6 then some (⟨1, l.take (numLen l).1⟩, (numLen l).1) else none := by
  cases l with
  | nil => cases h
  | cons c t => simp only [lex1]; rw [if_pos (by simpa using h)]
theorem lex1_word {l : Bs} (h0 : isDig (l.getD 0 0) = false) (h : isLet (l.getD 0 0) = true) : lex1 l = some (⟨2, l.take (1 + cntWrd (l.drop 1))⟩, 1 + cntWrd (l.drop 1)) := by
  cases l with
  | nil => cases h
  | cons c t => simp only [lex1]; rw [if_neg (by simpa using h0), if_pos (by simpa using h)]; rfl
theorem lex1_text {l : Bs} (h : l.getD 0 0 = 39) : lex1 l = if cntTxt (l.drop 1) < (l.drop 1).length then some (⟨3, (l.drop 1).take (cntTxt (l.drop 1))⟩, cntTxt (l.drop 1) + 2) else none := by
  cases l with
  | nil => cases h
  | cons c t =>
    have h' : c = 39 := by simpa using h
    subst h'
    simp only [lex1]
    rw [if_neg (by decide), if_neg (by decide), if_pos trivial]
    rfl
theorem lex1_sign {l : Bs} (hl : l ≠ []) (h0 : isDig (l.getD 0 0) = false) (h1 : isLet (l.getD 0 0) = false) (h2 : l.getD 0 0 ≠ 39) : lex1 l = if isTwo (l.getD 0 0) (l.getD 1 0) = true then some (⟨4, l.take 2⟩, 2) else if isOne (l.getD 0 0) = true then some (⟨4, l.take 1⟩, 1) else none := by
  cases l with
  | nil => exact absurd rfl hl
  | cons c t =>
    simp only [lex1]
    rw [if_neg (by simpa using h0), if_neg (by simpa using h1), if_neg (by simpa using h2)]
    rfl
/-- How many bytes a sign takes; 0: there is none. -/
def signLen (c d : UInt8) : Nat := if isTwo c d = true then 2 else if isOne c = true then 1 else 0
theorem wsign (r : Nat) (s : Bs) (a k : Nat) (g : Bs) (hs : s.length ≤ 1000000) (ha : a < s.length) (w : World) (h : Rd w r s a k g) :
    Calls Tryz.prog 103 #[.pointer (some ⟨r, 0, none⟩)] w fun e w' => SignEnd r s a g w (signLen (s.getD a 0) (s.getD (a + 1) 0)) e w' := by
  unfold signLen
  cases h2 : isTwo (s.getD a 0) (s.getD (a + 1) 0)
  · rw [if_neg (by decide)]; exact wsign1 r s a k g hs ha w h h2
  · rw [if_pos rfl]
    refine wsign2 r s a k g hs ?_ w h h2
    have h3 : s.getD (a + 1) 0 = 61 := by simp [isTwo] at h2; simpa using h2.1
    have := getD_zero (l := s) (i := a + 1) (by rw [h3]; decide)
    omega
theorem signLen_le {s : Bs} {a : Nat} (ha : a < s.length) : a + signLen (s.getD a 0) (s.getD (a + 1) 0) ≤ s.length := by
  unfold signLen
  split
  · rename_i h2
    have h3 : s.getD (a + 1) 0 = 61 := by simp [isTwo] at h2; simpa using h2.1
    have := getD_zero (l := s) (i := a + 1) (by rw [h3]; decide)
    omega
  · split <;> omega
theorem lex1_sign2 {l : Bs} (hl : l ≠ []) (h0 : isDig (l.getD 0 0) = false) (h1 : isLet (l.getD 0 0) = false) (h2 : l.getD 0 0 ≠ 39) :
    (signLen (l.getD 0 0) (l.getD 1 0) ≠ 0 → lex1 l = some (⟨4, l.take (signLen (l.getD 0 0) (l.getD 1 0))⟩, signLen (l.getD 0 0) (l.getD 1 0))) ∧ (signLen (l.getD 0 0) (l.getD 1 0) = 0 → lex1 l = none) := by
  rw [lex1_sign hl h0 h1 h2]
  unfold signLen
  split
  · exact ⟨fun _ => rfl, fun h => by cases h⟩
  · split
    · exact ⟨fun _ => rfl, fun h => by cases h⟩
    · exact ⟨fun h => absurd rfl h, fun _ => rfl⟩
theorem quiet_eq2 {P : Program} {f : FuncId} {args : Array Value} {w : World} {a n : Nat} {v : Value} (h : Calls P f args (w.drewN (a + n)) fun e w' => e = .returned v ∧ w.drewN (a + n) = w') : Calls P f args (w.drewN (a + n)) fun e w'' => e = .returned v ∧ ∃ m, w'' = w.drewN (a + m) :=
  h.mono fun _ _ ⟨he, hm⟩ => ⟨he, n, hm.symm⟩
theorem wrd_95 {c : UInt8} (h : isWrd c = true) (h1 : isLet c = false) (h2 : isDig c = false) : c = 95 := by
  unfold isWrd at h
  rw [h1, h2] at h
  simpa using h
theorem let_wrd {c : UInt8} (h : isLet c = true) : isWrd c = true := by simp [isWrd, h]
theorem cntWrd_first {l : Bs} (h : isLet (l.getD 0 0) = true) : cntWrd l = 1 + cntWrd (l.drop 1) := by
  cases l with
  | nil => cases h
  | cons c t =>
    have h2 := let_wrd h
    unfold cntWrd
    rw [List.takeWhile_cons_of_pos (p := isWrd) (by simpa using h2), List.length_cons]
    exact Nat.add_comm _ _
theorem qnext_tok {r : Nat} {s : Bs} {p q kk : Nat} {w w' : World} {t : Tok} (hp : p < s.length) (hpq : p ≤ q) (hl : lex1 (s.drop p) = some (t, q - p)) (hk : kk = t.k) (hr : Rd w' r s q kk t.s) (hb : But [r] w w') : QNext r s p w (.returned (.tuple #[])) w' :=
  ⟨hb, .inr ⟨hp, .inr ⟨t, q - p, hl, rfl, by rw [show p + (q - p) = q by omega, ← hk]; exact hr⟩⟩⟩
theorem indexByte_txt (l : Bs) : Lib.indexByte l 39 = if cntTxt l < l.length then (cntTxt l : Int) else -1 := by
  induction l with
  | nil => rfl
  | cons c t ih =>
    unfold cntTxt at ih ⊢
    rw [show Lib.indexByte (c :: t) 39 = if c == 39 then 0 else if Lib.indexByte t 39 == -1 then -1 else Lib.indexByte t 39 + 1 from rfl]
    by_cases h : c = 39
    · subst h; simp
    · have h1 : (c == 39) = false := by simpa using h
      have h2 : (c != 39) = true := by simp [bne, h1]
      rw [h1, if_neg (by decide), ih, List.takeWhile_cons_of_pos (p := fun c => c != 39) h2, List.length_cons, List.length_cons]
      generalize (List.takeWhile (fun c => c != 39) t).length = m
      by_cases hq : m < t.length
      · rw [if_pos hq, if_pos (by omega : m + 1 < t.length + 1)]
        rw [if_neg (by simp)]
        omega
      · rw [if_neg hq, if_pos (by decide : ((-1 : Int) == -1) = true), if_neg (by omega)]
theorem cntBl_le (s : Bs) (a : Nat) (ha : a ≤ s.length) : a ≤ blAt s a ∧ blAt s a ≤ s.length := by
  have h := takeWhile_le (fun c => c == 32) (s.drop a)
  rw [List.length_drop] at h
  unfold blAt cntBl
  omega
set_option maxRecDepth 100000 in
set_option maxHeartbeats 8000000 in
theorem wqnext (r : Nat) (s : Bs) (a k : Nat) (g : Bs) (hs : s.length ≤ 1000000) (ha : a ≤ s.length) (w : World) (h : Rd w r s a k g) :
    Calls Tryz.prog 82 #[.pointer (some ⟨r, 0, none⟩)] w fun e w' => QNext r s (blAt s a) w e w' := by
  have HS := Lib.hid (tx_size' s)
  have HSL := Lib.hid hs
  have HBL := Lib.hid (cntBl_le s a ha)
  obtain ⟨b, hb⟩ : ∃ b, b = blAt s a := ⟨_, rfl⟩
  have HBV := Lib.hid (show b - a = cntBl (s.drop a) by rw [hb]; unfold blAt; omega)
  rw [← hb] at HBL ⊢
  have HR := Lib.hid h
  obtain ⟨c0, c1, c2, c3, fr, hlt⟩ := h.cells
  clear h hb
  go_enter Tryz.func82, Tryz.ntmps82
  go_wp2_with fail
  clear c0 c1 c2 c3 fr
  go_loopg [] (s.length - a) (fun n wr => ∃ p : Nat, a ≤ p ∧ p + n = s.length ∧ p ≤ b ∧ Hid (Rd wr r s p k g) ∧ Hid (But [r] w wr))
  case atStart => exact ⟨a, by omega, by omega, HBL.out.1, HR, Lib.hid (But.refl _ _)⟩
  case round =>
    obtain ⟨p, hap, hp, hpb, HR1, HB1⟩ := hrel
    obtain ⟨c0, c1, c2, c3, fr, hlt⟩ := HR1.out.cells
    have f1 := fr 1
    have HF := Lib.hid fr
    clear fr
    by_cases q1 : p < (tx s).size
    · have q1' : p < s.length := by have := HS.out; omega
      have HA := Lib.hid (takeWhile_at (fun c => c == 32) (s.drop a) (p - a) (by have := HBV.out; unfold cntBl at this; omega) (by simp; omega))
      rw [getD_drop, show a + (p - a) = p by omega] at HA
      have HX := Lib.hid (tx_at s p q1')
      by_cases q2 : s.getD p 0 = 32
      · have z : (((tx s)[p]'q1).toNat : Int) = 32 := toNat_of (HX.out.trans q2)
        have HV := Lib.hid (HA.out.1 (by simpa using q2))
        clear q2 HA
        go_wp2_with fail
        go_quiet (fail)
        go_wp2
        go_roundg (gk - 1)
        case measure => omega
        case rel => exact ⟨p + 1, by omega, by omega, by have := HV.out; have := HBV.out; unfold cntBl at this; omega, Lib.hid ((HR1.out.drewN _).at (p + 1)), Lib.hid ((HB1.out.drewN _).cell _ _)⟩
      · have z : ((((tx s)[p]'q1).toNat : Int) == 32) = false := by
          have := ne_nat (c := (tx s)[p]'q1) (v := 32) (by rw [HX.out]; exact q2)
          simpa using this
        have HPB : Hid (b = p) := Lib.hid (by have := HA.out.2 (by simpa using q2); have := HBV.out; unfold cntBl at this; omega)
        have x2 : ((p : Int) == ((tx s).size : Int)) = false := by simp; omega
        have x3 : (p : Int) < ((tx s).size : Int) := by omega
        clear q2 HA
        obtain ⟨c, hc⟩ : ∃ c, c = s.getD p 0 := ⟨_, rfl⟩
        have HC := Lib.hid hc
        go_wp2_with fail
        go_quiet (fail)
        clear z
        go_wp2_with fail
        go_quiet (fail)
        clear x2
        go_wp2_with fail
        go_quiet (fail)
        clear HBV
        have HLX : Hid (b = p ∧ p < s.length) := Lib.hid ⟨HPB.out, q1'⟩
        have HDR : Hid (s.drop p ≠ []) := Lib.hid (fun h => by have := congrArg List.length h; simp at this; omega)
        have g0 : (s.drop p).getD 0 0 = s.getD p 0 := getD_drop s p 0
        cases d1 : isDig (s.getD p 0)
        · have HI1 : Hid (∀ W, Calls Tryz.prog 99 #[.int .u8 (((tx s)[p]'q1).toNat : Int)] W fun e w' => e = .returned (.bool false) ∧ W = w') := Lib.hid (fun W => by rw [HX.out, ← d1]; exact wisDigit _ W)
          cases d2 : isLet (s.getD p 0)
          · have HI2 : Hid (∀ W, Calls Tryz.prog 101 #[.int .u8 (((tx s)[p]'q1).toNat : Int)] W fun e w' => e = .returned (.bool false) ∧ W = w') := Lib.hid (fun W => by rw [HX.out, ← d2]; exact wisLetter _ W)
            by_cases d3 : s.getD p 0 = 39
            · have z : ((((tx s)[p]'q1).toNat : Int) == 39) = true := by
                have : (((tx s)[p]'q1).toNat : Int) = 39 := toNat_of (HX.out.trans d3)
                simpa using this
              have HLEX := Lib.hid (lex1_text (l := s.drop p) (by rw [g0]; exact d3))
              rw [List.drop_drop, List.length_drop] at HLEX
              have HIB : Hid (∀ W, Calls Tryz.prog 102 #[.string ((tx s).extract (p + 1) (tx s).size), .int .u8 39] W fun e w' => e = .returned (.int .i64 (if cntTxt (s.drop (p + 1)) < s.length - (p + 1) then (cntTxt (s.drop (p + 1)) : Int) else -1)) ∧ W = w') := Lib.hid (fun W => by
                refine (Tryz.strings_IndexByte _ 39 W).mono ?_
                rintro e w' ⟨rfl, rfl⟩
                refine ⟨?_, rfl⟩
                rw [tx_extract, tx_list, List.take_of_length_le (by rw [List.length_drop, tx_size']; omega), show ((39 : Int).toNat.toUInt8) = (39 : UInt8) from rfl, indexByte_txt, List.length_drop])
              have HNL := Lib.hid (takeWhile_le (fun c => c != 39) (s.drop (p + 1)))
              rw [List.length_drop] at HNL
              obtain ⟨m, hm⟩ : ∃ m, m = cntTxt (s.drop (p + 1)) := ⟨_, rfl⟩
              rw [← hm] at HIB HLEX
              have HM := Lib.hid hm
              have f2 := HF.out 2
              have f3 := HF.out 3
              have i1 : IntKind.i64.wrap ((p : Int) + 1) = (p : Int) + 1 := IntWalk.i64_in _ (by have := HSL.out; omega)
              have i2 : 0 ≤ (p : Int) + 1 := by omega
              have i3 : ((p : Int) + 1).toNat = p + 1 := by omega
              have i4 : p + 1 ≤ (tx s).size := by omega
              have i5 : (p : Int) + 1 ≤ ((tx s).size : Int) := by omega
              clear d1 d2 d3 g0 hm
              by_cases t1 : m < s.length - (p + 1)
              · rw [if_pos t1] at HIB HLEX
                have HT := Lib.hid t1
                clear t1
                go_wp2_with (first | (go_at_call 99; refine (HI1.out _).mono ?_; rintro e w1 ⟨rfl, rfl⟩) | (go_at_call 101; refine (HI2.out _).mono ?_; rintro e w1 ⟨rfl, rfl⟩))
                go_quiet ((go_at_call 102; exact quiet_eq2 (HIB.out _)))
                have HQ := Lib.hid (show p + 1 + m + 1 ≤ (tx s).size by have h1 := HT.out; have h2 := HS.out; omega)
                obtain ⟨q, hq⟩ : ∃ q : Nat, (p : Int) + ((m : Int) + 2) = (q : Int) := ⟨p + (m + 2), by omega⟩
                have HQ2 := Lib.hid (show q = p + (m + 2) by omega)
                have pl : p ≤ 1000000 := by have := HSL.out; omega
                have ml : m ≤ 1000000 := by have := HT.out; have := HSL.out; omega
                have ql : q ≤ 2000002 := by omega
                have j1 : IntKind.i64.wrap ((q : Int) - 1) = (q : Int) - 1 := IntWalk.i64_in _ (by omega)
                have j2 : 0 ≤ (q : Int) - 1 := by omega
                have j3 : ((q : Int) - 1).toNat = q - 1 := by omega
                have j4 : (q : Int) - 1 ≤ ((tx s).size : Int) := by have := HQ.out; omega
                have j5 : (p : Int) + 1 ≤ (q : Int) - 1 := by omega
                go_wp2_with fail
                go_region_with (fail)
                clear j1 j2 j3 j4 j5
                all_goals
                  go_wp2
                  first | go_end0 | refine bodyPost_ret (results_none rfl _ _ _) rfl ?_
                  have HQ3 := HQ2.out
                  rw [HLX.out.1, tx_extract, show q - 1 - (p + 1) = m by omega]
                  refine qnext_tok (q := q) (t := ⟨3, (s.drop (p + 1)).take m⟩) HLX.out.2 (by omega) ?_ rfl ?_ ?_
                  · rw [HLEX.out, show q - p = m + 2 by omega]
                  · first | exact ((((HR1.out.drewN _).at q).kind 3).got _).drew | exact (((HR1.out.drewN _).at q).kind 3).drew.got _
                  · first | exact ((((HB1.out.drewN _).cell _ _).cell _ _).cell _ _).drew | exact (((HB1.out.drewN _).cell _ _).cell _ _).drew.cell _ _
              · rw [if_neg t1] at HIB HLEX
                go_wp2_with (first | (go_at_call 99; refine (HI1.out _).mono ?_; rintro e w1 ⟨rfl, rfl⟩) | (go_at_call 101; refine (HI2.out _).mono ?_; rintro e w1 ⟨rfl, rfl⟩))
                go_quiet ((go_at_call 102; exact quiet_eq2 (HIB.out _)))
                go_wp2
                rw [HLX.out.1]
                exact ⟨rfl, HB1.out.drewN _, .inr ⟨HLX.out.2, .inl ⟨HLEX.out, rfl⟩⟩⟩
            · have z : ((((tx s)[p]'q1).toNat : Int) == 39) = false := by
                have := ne_nat (c := (tx s)[p]'q1) (v := 39) (by rw [HX.out]; exact d3)
                simpa using this
              have HLEX := Lib.hid (lex1_sign2 (l := s.drop p) HDR.out (by rw [g0]; exact d1) (by rw [g0]; exact d2) (by rw [g0]; exact d3))
              have HNL := Lib.hid (signLen_le HLX.out.2)
              rw [getD_drop, getD_drop] at HLEX
              simp only [Nat.add_zero] at HLEX
              clear d1 d2 d3 g0
              go_wp2_with (first | (go_at_call 99; refine (HI1.out _).mono ?_; rintro e w1 ⟨rfl, rfl⟩) | (go_at_call 101; refine (HI2.out _).mono ?_; rintro e w1 ⟨rfl, rfl⟩))
              go_at_call 103
              refine (wsign r s p k g HSL.out HLX.out.2 _ (HR1.out.drewN _)).mono ?_
              rintro e w2 ⟨hb2, ⟨n1, rfl, hr2⟩ | ⟨n1, rfl⟩⟩
              · have HB2 := Lib.hid ((HB1.out.drewN _).trans hb2)
                have HV := Lib.hid (HLEX.out.1 n1)
                obtain ⟨q, hq⟩ : ∃ q, q = p + signLen (s.getD p 0) (s.getD (p + 1) 0) := ⟨_, rfl⟩
                have HQ := Lib.hid hq
                rw [← hq] at hr2
                have x4 : p ≤ q := by omega
                have x5 : q ≤ (tx s).size := by
                  have h1 := HNL.out
                  have h2 := HS.out
                  omega
                have HR2 := Lib.hid hr2
                clear hb2 n1 hq c0 c1 c2 c3 f1 z
                obtain ⟨c0', c1', c2', c3', fr', hlt'⟩ := hr2.cells
                have f3 := fr' 3
                clear hr2 fr'
                go_wp2_with fail
                go_region_with (fail)
                all_goals
                  go_wp2
                  first | go_end0 | refine bodyPost_ret (results_none rfl _ _ _) rfl ?_
                  rw [HLX.out.1, tx_extract]
                  refine qnext_tok HLX.out.2 x4 (t := ⟨4, (s.drop p).take (q - p)⟩) ?_ rfl ?_ ?_
                  · rw [HV.out]; have := HQ.out; rw [show q - p = signLen (s.getD p 0) (s.getD (p + 1) 0) by omega]
                  · first | exact (HR2.out.got _).drew | exact HR2.out.drew.got _
                  · first | exact (HB2.out.cell _ _).drew | exact HB2.out.drew.cell _ _
              · go_wp2
                rw [HLX.out.1]
                exact ⟨rfl, (HB1.out.drewN _).trans hb2, .inr ⟨HLX.out.2, .inl ⟨HLEX.out.2 n1, rfl⟩⟩⟩
          · have HI2 : Hid (∀ W, Calls Tryz.prog 101 #[.int .u8 (((tx s)[p]'q1).toNat : Int)] W fun e w' => e = .returned (.bool true) ∧ W = w') := Lib.hid (fun W => by rw [HX.out, ← d2]; exact wisLetter _ W)
            have HLEX := Lib.hid (lex1_word (l := s.drop p) (by rw [g0]; exact d1) (by rw [g0]; exact d2))
            have HCW := Lib.hid (cntWrd_first (l := s.drop p) (by rw [g0]; exact d2))
            rw [← HCW.out] at HLEX
            have HNL := Lib.hid (takeWhile_le isWrd (s.drop p))
            rw [List.length_drop] at HNL
            clear d1 d2 g0
            go_wp2_with (first | (go_at_call 99; refine (HI1.out _).mono ?_; rintro e w1 ⟨rfl, rfl⟩) | (go_at_call 101; refine (HI2.out _).mono ?_; rintro e w1 ⟨rfl, rfl⟩))
            clear c0 c1 c2 c3 f1 HF
            go_loopg [] (s.length - p) (fun n wx => ∃ q : Nat, p ≤ q ∧ q + n = s.length ∧ q - p ≤ cntWrd (s.drop p) ∧ Hid (Rd wx r s q k g) ∧ Hid (But [r] w wx))
            case atStart => exact ⟨p, by omega, by omega, by omega, Lib.hid (HR1.out.drewN _), Lib.hid (HB1.out.drewN _)⟩
            case round =>
              obtain ⟨q, hpq, hq, hqw, HR3, HB3⟩ := hrel
              obtain ⟨c0, c1, c2, c3, fr, hlt⟩ := HR3.out.cells
              have f1 := fr 1
              have f2 := fr 2
              have f3 := fr 3
              clear fr
              by_cases y1 : q < (tx s).size
              · have y1' : q < s.length := by have := HS.out; omega
                have HA := Lib.hid (takeWhile_at isWrd (s.drop p) (q - p) (by unfold cntWrd at hqw; omega) (by simp; omega))
                rw [getD_drop, show p + (q - p) = q by omega] at HA
                have HX3 := Lib.hid (tx_at s q y1')
                cases q2 : isWrd (s.getD q 0)
                · have HV : Hid (q - p = cntWrd (s.drop p)) := Lib.hid (HA.out.2 q2)
                  have w1 : isLet (s.getD q 0) = false ∧ isDig (s.getD q 0) = false ∧ s.getD q 0 ≠ 95 := by simpa [isWrd, and_assoc] using q2
                  have HL : Hid (∀ W, Calls Tryz.prog 101 #[.int .u8 (((tx s)[q]'y1).toNat : Int)] W fun e w' => e = .returned (.bool false) ∧ W = w') := Lib.hid (fun W => by rw [HX3.out, ← w1.1]; exact wisLetter _ W)
                  have HD : Hid (∀ W, Calls Tryz.prog 99 #[.int .u8 (((tx s)[q]'y1).toNat : Int)] W fun e w' => e = .returned (.bool false) ∧ W = w') := Lib.hid (fun W => by rw [HX3.out, ← w1.2.1]; exact wisDigit _ W)
                  have z : ((((tx s)[q]'y1).toNat : Int) == 95) = false := by
                    have := ne_nat (c := (tx s)[q]'y1) (v := 95) (by rw [HX3.out]; exact w1.2.2)
                    simpa using this
                  clear q2 w1 HA
                  go_wp2_with fail
                  go_quiet (first | (go_at_call 101; exact quiet_eq (HL.out _)) | (go_at_call 99; exact quiet_eq (HD.out _)))
                  clear z
                  have x5 : q ≤ (tx s).size := by omega
                  have x6 : p ≤ q := hpq
                  go_wp2_with fail
                  go_region_with (fail)
                  all_goals
                    go_wp2
                    first | go_end0 | refine bodyPost_ret (results_none rfl _ _ _) rfl ?_
                    rw [HLX.out.1, tx_extract]
                    refine qnext_tok HLX.out.2 hpq (t := ⟨2, (s.drop p).take (q - p)⟩) ?_ rfl ?_ ?_
                    · rw [HLEX.out, ← HV.out]
                    · first | exact (((HR3.out.drewN _).kind 2).got _).drew | exact ((HR3.out.drewN _).kind 2).drew.got _
                    · first | exact (((HB3.out.drewN _).cell _ _).cell _ _).drew | exact ((HB3.out.drewN _).cell _ _).drew.cell _ _
                · have HV := Lib.hid (HA.out.1 q2)
                  cases w1 : isLet (s.getD q 0)
                  · have HL : Hid (∀ W, Calls Tryz.prog 101 #[.int .u8 (((tx s)[q]'y1).toNat : Int)] W fun e w' => e = .returned (.bool false) ∧ W = w') := Lib.hid (fun W => by rw [HX3.out, ← w1]; exact wisLetter _ W)
                    cases w2 : isDig (s.getD q 0)
                    · have HD : Hid (∀ W, Calls Tryz.prog 99 #[.int .u8 (((tx s)[q]'y1).toNat : Int)] W fun e w' => e = .returned (.bool false) ∧ W = w') := Lib.hid (fun W => by rw [HX3.out, ← w2]; exact wisDigit _ W)
                      have w3 : s.getD q 0 = 95 := wrd_95 q2 w1 w2
                      have z : ((((tx s)[q]'y1).toNat : Int) == 95) = true := by
                        have : (((tx s)[q]'y1).toNat : Int) = 95 := toNat_of (HX3.out.trans w3)
                        simpa using this
                      clear w1 w2 w3 HA
                      clear q2
                      go_wp2_with fail
                      go_quiet (first | (go_at_call 101; exact quiet_eq (HL.out _)) | (go_at_call 99; exact quiet_eq (HD.out _)))
                      go_wp2
                      go_roundg (gk - 1)
                      case measure => omega
                      case rel => exact ⟨q + 1, by omega, by omega, by have := HV.out; unfold cntWrd; omega, Lib.hid ((HR3.out.drewN _).at (q + 1)), Lib.hid ((HB3.out.drewN _).cell _ _)⟩

                    · have HD : Hid (∀ W, Calls Tryz.prog 99 #[.int .u8 (((tx s)[q]'y1).toNat : Int)] W fun e w' => e = .returned (.bool true) ∧ W = w') := Lib.hid (fun W => by rw [HX3.out, ← w2]; exact wisDigit _ W)
                      clear w1 w2 HA
                      clear q2
                      go_wp2_with fail
                      go_quiet (first | (go_at_call 101; exact quiet_eq (HL.out _)) | (go_at_call 99; exact quiet_eq (HD.out _)))
                      go_wp2
                      go_roundg (gk - 1)
                      case measure => omega
                      case rel => exact ⟨q + 1, by omega, by omega, by have := HV.out; unfold cntWrd; omega, Lib.hid ((HR3.out.drewN _).at (q + 1)), Lib.hid ((HB3.out.drewN _).cell _ _)⟩

                  · have HL : Hid (∀ W, Calls Tryz.prog 101 #[.int .u8 (((tx s)[q]'y1).toNat : Int)] W fun e w' => e = .returned (.bool true) ∧ W = w') := Lib.hid (fun W => by rw [HX3.out, ← w1]; exact wisLetter _ W)
                    clear w1 HA
                    clear q2
                    go_wp2_with fail
                    go_quiet ((go_at_call 101; exact quiet_eq (HL.out _)))
                    go_wp2
                    go_roundg (gk - 1)
                    case measure => omega
                    case rel => exact ⟨q + 1, by omega, by omega, by have := HV.out; unfold cntWrd; omega, Lib.hid ((HR3.out.drewN _).at (q + 1)), Lib.hid ((HB3.out.drewN _).cell _ _)⟩

              · have x1 : decide ((q : Int) < ((tx s).size : Int)) = false := decide_eq_false (by omega)
                have HV : Hid (q - p = cntWrd (s.drop p)) := Lib.hid (by have h1 := HS.out; have h2 := HNL.out; unfold cntWrd at hqw ⊢; omega)
                go_wp2_with fail
                go_quiet (fail)
                clear x1
                have x5 : q ≤ (tx s).size := by have := HS.out; omega
                have x6 : p ≤ q := hpq
                go_wp2_with fail
                go_region_with (fail)
                all_goals
                  go_wp2
                  first | go_end0 | refine bodyPost_ret (results_none rfl _ _ _) rfl ?_
                  rw [HLX.out.1, tx_extract]
                  refine qnext_tok HLX.out.2 hpq (t := ⟨2, (s.drop p).take (q - p)⟩) ?_ rfl ?_ ?_
                  · rw [HLEX.out, ← HV.out]
                  · first | exact (((HR3.out.drewN _).kind 2).got _).drew | exact ((HR3.out.drewN _).kind 2).drew.got _
                  · first | exact (((HB3.out.drewN _).cell _ _).cell _ _).drew | exact ((HB3.out.drewN _).cell _ _).drew.cell _ _
        · have HI1 : Hid (∀ W, Calls Tryz.prog 99 #[.int .u8 (((tx s)[p]'q1).toNat : Int)] W fun e w' => e = .returned (.bool true) ∧ W = w') := Lib.hid (fun W => by rw [HX.out, ← d1]; exact wisDigit _ W)
          have HLEX := Lib.hid (lex1_num (l := s.drop p) (by rw [g0]; exact d1))
          have HNL := Lib.hid (numLen_le (s.drop p))
          clear d1 g0
          go_wp2_with (first | (go_at_call 99; refine (HI1.out _).mono ?_; rintro e w1 ⟨rfl, rfl⟩))
          go_at_call 100
          refine (wnumber r s p k g HSL.out HLX.out.2 _ (HR1.out.drewN _)).mono ?_
          rintro e w2 ⟨hb2, ⟨n1, n2, rfl, hr2⟩ | ⟨n1, rfl⟩⟩
          · have HR2 := Lib.hid hr2
            have HB2 := Lib.hid ((HB1.out.drewN _).trans hb2)
            have HV := Lib.hid (And.intro n1 n2)
            obtain ⟨q, hq⟩ : ∃ q, q = p + (numLen (s.drop p)).1 := ⟨_, rfl⟩
            have HQ := Lib.hid hq
            rw [← hq] at hr2
            have x4 : p ≤ q := by omega
            have x5 : q ≤ (tx s).size := by
              have h1 := HNL.out.1
              have h2 := HS.out
              rw [List.length_drop] at h1
              omega
            have HR2 := Lib.hid hr2
            clear hb2 n1 n2 hq c0 c1 c2 c3 f1
            obtain ⟨c0', c1', c2', c3', fr', hlt'⟩ := hr2.cells
            have f3 := fr' 3
            clear hr2 fr'
            go_wp2_with fail
            go_region_with (fail)
            all_goals
              go_wp2
              first | go_end0 | refine bodyPost_ret (results_none rfl _ _ _) rfl ?_
              rw [HLX.out.1, tx_extract]
              refine qnext_tok HLX.out.2 x4 (t := ⟨1, (s.drop p).take (q - p)⟩) ?_ rfl ?_ ?_
              · rw [HLEX.out, if_pos HV.out]; have := HQ.out; rw [show q - p = (numLen (s.drop p)).1 by omega]
              · first | exact (HR2.out.got _).drew | exact HR2.out.drew.got _
              · first | exact (HB2.out.cell _ _).drew | exact HB2.out.drew.cell _ _
          · go_wp2
            rw [HLX.out.1]
            exact ⟨rfl, (HB1.out.drewN _).trans hb2, .inr ⟨HLX.out.2, .inl ⟨by rw [HLEX.out, if_neg n1], rfl⟩⟩⟩
    · have x1 : decide ((p : Int) < ((tx s).size : Int)) = false := decide_eq_false (by omega)
      have x2 : ((p : Int) == ((tx s).size : Int)) = true := by have := HS.out; simp; omega
      have HPB : Hid (b = p) := Lib.hid (by have := HBL.out; have := HS.out; omega)
      have f2 := HF.out 2
      have f3 := HF.out 3
      have HP2 := Lib.hid (show s.length ≤ p by have := HS.out; omega)
      go_wp2_with fail
      go_quiet (fail)
      clear x1
      go_wp2_with fail
      go_quiet (fail)
      go_wp2
      first | go_end0 | refine bodyPost_ret (results_none rfl _ _ _) rfl ?_
      rw [HPB.out]
      exact ⟨((HB1.out.drewN _).cell 2 _).cell 3 _, .inl ⟨HP2.out, rfl, ((HR1.out.drewN _).kind 0).got []⟩⟩
end Go.Proofs.YtdomglkcfecnnaaGreat
