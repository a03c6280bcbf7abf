/- Walk: Parse of the program. -/
import Derived.Test.YtlhfdpeidlbomaaDoorTD
namespace Go.Proofs.YtlhfdpeidlbomaaDoor
open Go.RowKit Go.Shelf
def cutA (c : UInt8) (s : Bs) : Bs := match cut1 c s with
  | some p => p.1
  | none => s
def cutB (c : UInt8) (s : Bs) : Bs := match cut1 c s with
  | some p => p.2
  | none => []
def cutO (c : UInt8) (s : Bs) : Bool := match cut1 c s with
  | some _ => true
  | none => false
theorem wcut1 (c : UInt8) (s : Bs) (hs : s.length ≤ 1000000) (w : World) (hm : MaxLn w) : Calls Tryd.prog 29 #[.string (tx s), .string ⟨#[c]⟩] w fun e w' => e = .returned (.tuple #[.string (tx (cutA c s)), .string (tx (cutB c s)), .bool (cutO c s)]) ∧ Below w.heap.size w w' := by
  obtain ⟨m, hm⟩ := hm
  refine (Tryd.strings_Cut (tx s) (tx [c]) m w (by simp [tx, ByteArray.size]; omega) hm).mono ?_
  rintro e w' ⟨rfl, n, rfl⟩
  refine ⟨?_, below_drewN (Below.refl _ _) _⟩
  have h := lib_cut c s
  unfold cutA cutB cutO
  simp only [tx_list, h]
  cases cut1 c s <;> rfl
/-- The state of Parse: the theme, and which parts are named. -/
structure PS (w : World) (bt bn : Nat) (ys : List Sty) (nm : List Bool) (wr : World) : Prop where
  th : ThAt wr bt ys
  nb : wr.heap[bn]? = some (.cells (nm.map Value.bool).toArray 64 (0, 0))
  nl : nm.length = 10
  bel : Below w.heap.size w wr
  ml : MaxLn wr
  ne : bt ≠ bn ∧ w.heap.size ≤ bt ∧ w.heap.size ≤ bn ∧ 0 < w.heap.size
theorem PS.kept {w : World} {bt bn : Nat} {ys : List Sty} {nm : List Bool} {w1 w2 : World} (h : PS w bt bn ys nm w1) (hb : Below w1.heap.size w1 w2) : PS w bt bn ys nm w2 :=
  ⟨h.th.kept h.th.lt hb, (hb.block _ ((Array.getElem?_eq_some_iff.1 h.nb).1)).trans h.nb, h.nl, h.bel.trans (below_le hb h.bel.size), h.ml.kept h.ml.lt hb, h.ne⟩
theorem PS.named {w : World} {bt bn : Nat} {ys : List Sty} {nm : List Bool} {w1 : World} (h : PS w bt bn ys nm w1) (k : Nat) (hk : k < 10) : w1.cell? ⟨bn, k, none⟩ = some (.bool (nm.getD k false)) ∧ w1.frozen? ⟨bn, k, none⟩ = false := by
  have hb := h.nb
  have hl := h.nl
  have e : (nm.map Value.bool)[k]? = some (.bool (nm.getD k false)) := by
    rw [List.getElem?_map, List.getD_eq_getElem?_getD, List.getElem?_eq_getElem (by omega)]; rfl
  exact ⟨by simpa [World.cell?, hb] using e, by simp [World.frozen?, hb]⟩
theorem PS.drew {w : World} {bt bn : Nat} {ys : List Sty} {nm : List Bool} {w1 : World} (h : PS w bt bn ys nm w1) : PS w bt bn ys nm w1.drew := h.kept (Below.refl _ _).drew
theorem five_cell {w : World} {b : Nat} {o0 o1 o2 o3 o4 : Nat} {v0 v1 v2 v3 v4 : Value} {j : Nat} (h : j ≠ b) : (((((w.setCell ⟨b, o0, none⟩ v0).setCell ⟨b, o1, none⟩ v1).setCell ⟨b, o2, none⟩ v2).setCell ⟨b, o3, none⟩ v3).setCell ⟨b, o4, none⟩ v4).heap[j]? = w.heap[j]? := by
  rw [set_other h, set_other h, set_other h, set_other h, set_other h]
theorem PS.step {w : World} {bt bn : Nat} {ys : List Sty} {nm : List Bool} {w1 : World} (h : PS w bt bn ys nm w1) (k : Nat) (hk : k < 10) (y : Sty) :
    PS w bt bn (ys.set k y) (nm.set k true) ((((((w1.setCell ⟨bn, k, none⟩ (.bool true)).setCell ⟨bt, k * 5, none⟩ (.bool y.b)).setCell ⟨bt, k * 5 + 1, none⟩ (.bool y.u)).setCell ⟨bt, k * 5 + 2, none⟩ (.bool y.i)).setCell ⟨bt, k * 5 + 3, none⟩ (.int .i64 y.f)).setCell ⟨bt, k * 5 + 4, none⟩ (.int .i64 y.g)) := by
  have ht : ThAt (w1.setCell ⟨bn, k, none⟩ (.bool true)) bt ys := ⟨(set_other h.ne.1).trans h.th.blk, h.th.len⟩
  have hb : Below w.heap.size w ((((((w1.setCell ⟨bn, k, none⟩ (.bool true)).setCell ⟨bt, k * 5, none⟩ (.bool y.b)).setCell ⟨bt, k * 5 + 1, none⟩ (.bool y.u)).setCell ⟨bt, k * 5 + 2, none⟩ (.bool y.i)).setCell ⟨bt, k * 5 + 3, none⟩ (.int .i64 y.f)).setCell ⟨bt, k * 5 + 4, none⟩ (.int .i64 y.g)) :=
    (((((h.bel.setCell (p := ⟨bn, k, none⟩) h.ne.2.2.1 _).setCell (p := ⟨bt, k * 5, none⟩) h.ne.2.1 _).setCell (p := ⟨bt, k * 5 + 1, none⟩) h.ne.2.1 _).setCell (p := ⟨bt, k * 5 + 2, none⟩) h.ne.2.1 _).setCell (p := ⟨bt, k * 5 + 3, none⟩) h.ne.2.1 _).setCell (p := ⟨bt, k * 5 + 4, none⟩) h.ne.2.1 _
  refine ⟨ht.stored k hk y, ?_, by rw [List.length_set]; exact h.nl, hb, ?_, h.ne⟩
  · rw [five_cell (Ne.symm h.ne.1)]
    have := set_block (o := k) h.nb (.bool true)
    rw [this]
    simp [List.map_set]
  · have hm := h.ml
    obtain ⟨m, hm⟩ := hm
    have h0 : ∀ b o, w.heap.size ≤ b → (⟨b, o, none⟩ : Addr) ≠ ⟨0, 0, none⟩ := fun b o hb e => by
      have e1 : b = 0 := congrArg Addr.block e
      have := h.ne.2.2.2
      omega
    refine ⟨m, ?_⟩
    rw [World.cell?_setCell_other _ _ _ _ (h0 _ _ h.ne.2.1), World.cell?_setCell_other _ _ _ _ (h0 _ _ h.ne.2.1), World.cell?_setCell_other _ _ _ _ (h0 _ _ h.ne.2.1), World.cell?_setCell_other _ _ _ _ (h0 _ _ h.ne.2.1), World.cell?_setCell_other _ _ _ _ (h0 _ _ h.ne.2.1), World.cell?_setCell_other _ _ _ _ (h0 _ _ h.ne.2.2.1)]
    exact hm
/-- What Parse comes to. -/
def ParseEnd (R : Option (List Sty) × Nat) (w : World) (e : Ending) (w' : World) : Prop :=
  match R with
  | (some ys, _) => ∃ b, e = .returned (.tuple #[.pointer (some ⟨b, 0, none⟩), .int .i64 0, .int .i64 0]) ∧ ThAt w' b ys ∧ w.heap.size ≤ b ∧ Below w.heap.size w w'
  | (none, n) => e = .returned (.tuple #[.pointer none, .int .i64 n, .int .i64 310]) ∧ Below w.heap.size w w'
def strLen : Value → Nat
  | .string s => s.size
  | _ => 0
theorem lnWords_len (a : Bs) : (lnWords a).length ≤ a.length := by
  unfold lnWords
  cases h : cut1 32 a with
  | none => simp
  | some p =>
    obtain ⟨h1, _⟩ := cut1_some (a := p.1) (b := p.2) h
    simp only []
    rw [h1]
    simp
    omega
theorem lnB_eq (a : Bs) : lnB a = (plB (lnPart a) && okS (lnWords a)) := rfl
set_option maxRecDepth 100000 in
set_option maxHeartbeats 4000000 in
theorem wparse (s : Bs) (hs : s.length ≤ 1000000) (w : World) (hm : MaxLn w) : Calls Tryd.prog 12 #[.string (tx s)] w (ParseEnd (parseT s) w) := by
  have HM := Lib.hid hm
  obtain ⟨R, hR⟩ : ∃ R, R = parseT s := ⟨_, rfl⟩
  rw [← hR]
  have HR := Lib.hid hR
  clear hR hm
  go_enter Tryd.func12, Tryd.ntmps12
  go_wp2_with (first | (go_at_call 16; fail))
  go_at_call 16
  refine (wnew _).mono ?_
  rintro e w1 ⟨rfl, ht, hb⟩
  have H0 : Hid (PS w (w.heap.size + 1) w1.heap.size usualL falses (w1.alloc (.cells #[.bool false, .bool false, .bool false, .bool false, .bool false, .bool false, .bool false, .bool false, .bool false, .bool false] 64))) := Lib.hid ⟨ht.kept ht.lt ((Below.refl _ _).alloc (Nat.le_refl _) _), heap_alloc_new _ _, rfl, hb.alloc hb.size _, HM.out.kept HM.out.lt (hb.alloc hb.size _), by have := ht.lt; omega, by omega, hb.size, HM.out.lt⟩
  have hsz := ht.lt
  clear ht hb HM
  obtain ⟨bt, hbt⟩ : ∃ b, b = w.heap.size + 1 := ⟨_, rfl⟩
  rw [← hbt] at H0 ⊢
  clear hbt hsz
  go_wp2
  generalize w1.alloc (.cells #[.bool false, .bool false, .bool false, .bool false, .bool false, .bool false, .bool false, .bool false, .bool false, .bool false] 64) = w2 at H0 ⊢
  obtain ⟨bn, hbn⟩ : ∃ b, b = w1.heap.size := ⟨_, rfl⟩
  rw [← hbn] at H0 ⊢
  clear hbn
  go_loopw [0, 7] (fun t i wr => ∃ (S : Bs) (n : Nat) (ys : List Sty) (nm : List Bool), t = .string (tx S) ∧ i = .int .i64 n ∧ n + S.length ≤ 1000001 ∧ 1 ≤ n ∧ Hid (runL (nl S) n ys nm = R ∧ PS w bt bn ys nm wr)) (fun t _ _ => strLen t)
  case atStart => exact ⟨s, 1, usualL, falses, rfl, rfl, by omega, by omega, Lib.hid ⟨HR.out.symm, H0.out⟩⟩
  case round =>
    clear H0 HR hs
    obtain ⟨S, n, ys, nm, rfl, rfl, hn, hn1, HS⟩ := hrel
    by_cases h0 : S = []
    · have hr := HS.out.1
      subst h0
      have HR : Hid (R = (some ys, 0)) := Lib.hid (hr.symm.trans rfl)
      clear hr
      have e0 : tx [] = ⟨#[]⟩ := rfl
      rw [e0]
      clear e0
      go_wp2
      go_ret3
      rw [HR.out]
      exact ⟨bt, rfl, HS.out.2.th, HS.out.2.ne.2.1, HS.out.2.bel⟩
    · have h1 : (tx S).toList.isEmpty = false := by rw [ByteArray.toList_eq]; simpa [tx] using h0
      have h2 : ¬ (tx S).toList = [] := fun q => by rw [q] at h1; cases h1
      have HC := Lib.hid (wcut1 10 S (by omega) wr HS.out.2.ml)
      have HSZ : Hid ((tx S).size = S.length) := Lib.hid (by simp [tx, ByteArray.size])
      obtain ⟨T, hT⟩ : ∃ T, T = tx S := ⟨_, rfl⟩
      rw [← hT] at h1 h2 HC HSZ ⊢
      clear hT
      cases hc : cut1 10 S with
      | none =>
        have hr := HS.out.1
        rw [nl_one S (cut1_none hc), runL, if_neg h0] at hr
        have HR := Lib.hid hr
        unfold cutA cutB cutO at HC
        rw [hc] at HC
        simp only [] at HC
        clear hr hc h0
        go_wp2_with (first | (go_at_call 29; (with_reducible refine HC.out.mono ?_); rintro e w3 ⟨rfl, hb3⟩))
        go_ret3
        rw [← HR.out]
        exact ⟨rfl, (HS.out.2.kept hb3).bel⟩
      | some p =>
        obtain ⟨a, b⟩ := p
        unfold cutA cutB cutO at HC
        rw [hc] at HC
        simp only [] at HC
        obtain ⟨hab, hna⟩ := cut1_some hc
        have hr := HS.out.1
        rw [hab, nl_app a b hna, runL_cons a (nl b) (nl_ne b)] at hr
        have HR := Lib.hid hr
        have hln : S.length = a.length + 1 + b.length := by rw [hab]; simp; omega
        clear hr hab hna hc h0
        go_wp2_with (first | (go_at_call 29; fail))
        go_at_call 29
        refine HC.out.mono ?_
        rintro e w3 ⟨rfl, hb3⟩
        have H3 := Lib.hid (HS.out.2.kept hb3)
        clear hb3 HC HS
        have HC := Lib.hid (wcut1 32 a (by omega) w3 H3.out.ml)
        go_wp2_with (first | (go_at_call 29; fail))
        go_at_call 29
        refine HC.out.mono ?_
        rintro e w4 ⟨rfl, hb4⟩
        have H4 := Lib.hid (H3.out.kept hb4)
        clear hb4 HC H3
        have e1 : cutA 32 a = lnPart a := rfl
        have e2 : cutB 32 a = lnWords a := rfl
        rw [e1, e2]
        clear e1 e2
        obtain ⟨O, hO⟩ : ∃ O, O = cutO 32 a := ⟨_, rfl⟩
        rw [← hO]
        clear hO
        have HP := Lib.hid (fun W => wplace (lnPart a) W)
        have HK : Hid (plI (lnPart a) = (lnK a : Int) ∧ lnK a < 10) := Lib.hid ⟨by have := pl_in (lnPart a); unfold lnK; omega, lnK_lt a⟩
        rw [HK.out.1] at HP
        have hk := HK.out.2
        have HSY := Lib.hid (fun W hW => wstyle (lnWords a) (by have := lnWords_len a; omega) W hW)
        have HB := Lib.hid (lnB_eq a)
        have HER := Lib.hid (show errS (lnWords a) = if okS (lnWords a) = true then 0 else 310 from rfl)
        have HYY : Hid (lnY a = styS (lnWords a)) := Lib.hid rfl
        obtain ⟨k, hkk⟩ : ∃ k, k = lnK a := ⟨_, rfl⟩
        obtain ⟨y, hyy⟩ : ∃ y, y = styS (lnWords a) := ⟨_, rfl⟩
        obtain ⟨er, herr⟩ : ∃ y, y = errS (lnWords a) := ⟨_, rfl⟩
        obtain ⟨pb, hpb⟩ : ∃ y, y = plB (lnPart a) := ⟨_, rfl⟩
        unfold StyleEnd at HSY
        rw [← hkk] at HP hk HR
        rw [← hyy] at HSY HYY
        rw [HYY.out] at HR
        rw [← herr] at HSY HER
        rw [← hpb] at HP HB
        rw [HB.out] at HR
        clear HK hkk hyy herr hpb HYY HB
        obtain ⟨t1, ht1⟩ : ∃ t, t = tx (lnPart a) := ⟨_, rfl⟩
        obtain ⟨t2, ht2⟩ : ∃ t, t = tx (lnWords a) := ⟨_, rfl⟩
        rw [← ht1] at HP ⊢
        rw [← ht2] at HSY ⊢
        clear ht1 ht2
        go_wp2_with (first | (go_at_call 30; fail))
        go_at_call 30
        refine (HP.out _).mono ?_
        rintro e w5 ⟨rfl, hb5⟩
        have H5 := Lib.hid (H4.out.kept hb5)
        clear hb5 H4 HP
        go_wp2_with (first | (go_at_call 9; fail))
        go_at_call 9
        refine (HSY.out _ H5.out.ml).mono ?_
        rintro e w6 ⟨rfl, hb6⟩
        have hbn : bn < w6.heap.size := (Array.getElem?_eq_some_iff.1 (H5.out.kept hb6).nb).1
        have HBN := Lib.hid hbn
        clear hbn
        have H6 := Lib.hid ((H5.out.kept hb6).kept ((Below.refl _ _).alloc (Nat.le_refl _) (.cells (styCells y) 23)))
        clear hb6 H5 HSY
        obtain ⟨yb, yu, yi, yf, yg⟩ := y
        unfold Sty.v
        unfold styCells at H6
        simp only [] at H6 ⊢
        have HYB : Hid (StyAt (w6.alloc (.cells #[.bool yb, .bool yu, .bool yi, .int .i64 yf, .int .i64 yg] 23)) w6.heap.size ⟨yb, yu, yi, yf, yg⟩) := Lib.hid (heap_alloc_new _ _)
        obtain ⟨c5, f5⟩ := H6.out.named k hk
        have i1 : (0 : Int) ≤ (k : Int) := by omega
        have i2 : (k : Int) < 10 := by omega
        cases pb
        · have HN : Hid (R = (none, n)) := by
            have := HR.out
            simp only [Bool.false_and, Bool.false_eq_true, false_and, if_false] at this
            exact Lib.hid this.symm
          clear HR HER
          go_wp2
          go_ret3
          rw [HN.out]
          exact ⟨rfl, H6.out.bel⟩
        · cases ho : okS (lnWords a)
          · rw [ho] at HR HER
            have HN : Hid (R = (none, n)) := by
              have := HR.out
              simp only [Bool.and_false, Bool.false_eq_true, false_and, if_false] at this
              exact Lib.hid this.symm
            have her : er = 310 := HER.out
            clear HR HER ho
            subst her
            go_wp2
            go_ret3
            rw [HN.out]
            exact ⟨rfl, H6.out.bel⟩
          · rw [ho] at HR HER
            have her : er = 0 := HER.out
            clear HER ho
            subst her
            cases hq : nm.getD k false
            · rw [hq] at HR c5
              have hr := HR.out
              simp only [Bool.and_true, and_true, if_true] at hr
              have HN := Lib.hid hr
              clear HR hr hq
              go_upto_region 15 with (fail)
              have HST := Lib.hid (H6.out.step k hk ⟨yb, yu, yi, yf, yg⟩)
              have hth : ThAt ((w6.alloc (.cells #[.bool yb, .bool yu, .bool yi, .int .i64 yf, .int .i64 yg] 23)).setCell ⟨bn, k, none⟩ (.bool true)) bt ys := ⟨(set_other H6.out.ne.1).trans H6.out.th.blk, H6.out.th.len⟩
              have hbx : StyAt ((w6.alloc (.cells #[.bool yb, .bool yu, .bool yi, .int .i64 yf, .int .i64 yg] 23)).setCell ⟨bn, k, none⟩ (.bool true)) w6.heap.size ⟨yb, yu, yi, yf, yg⟩ := (set_other (by have := HBN.out; omega)).trans HYB.out
              obtain ⟨c0, c1, c2, c3, c4, _, _⟩ := hbx.get
              obtain ⟨d0, d1, d2, d3, d4⟩ := hth.get k hk
              have f0 := hth.frozen (k * 5)
              have f1 := hth.frozen (k * 5 + 1)
              have f2 := hth.frozen (k * 5 + 2)
              have f3 := hth.frozen (k * 5 + 3)
              have f4 := hth.frozen (k * 5 + 4)
              simp only [] at HST c0 c1 c2 c3 c4
              generalize (w6.alloc (.cells #[.bool yb, .bool yu, .bool yi, .int .i64 yf, .int .i64 yg] 23)).setCell ⟨bn, k, none⟩ (.bool true) = W2 at HST c0 c1 c2 c3 c4 d0 d1 d2 d3 d4 f0 f1 f2 f3 f4 hth hbx ⊢
              clear hth hbx H6 HYB c5 f5
              go_region
              all_goals
                go_wp2
                go_roundw
                case rel => exact ⟨b, n + 1, _, _, rfl, by go_num, by omega, by omega, Lib.hid ⟨HN.out, HST.out.drew⟩⟩
                case measure =>
                  show (tx b).size < T.size
                  rw [HSZ.out]
                  simp [tx, ByteArray.size]
                  omega
            · rw [hq] at HR c5
              have HN : Hid (R = (none, n)) := by
                have := HR.out
                simp only [Bool.and_true, Bool.true_eq_false, and_false, if_false] at this
                exact Lib.hid this.symm
              clear HR hq
              go_wp2
              go_ret3
              rw [HN.out]
              exact ⟨rfl, H6.out.bel⟩
end Go.Proofs.YtlhfdpeidlbomaaDoor
