/- Own texts, merged: QD, D3. -/
import Derived.Test.YtdomglkcfecnnaaGreatMP19
import Derived.Test.YtdomglkcfecnnaaGreatMP23
/- Walk: named. -/
namespace Go.Proofs.YtdomglkcfecnnaaGreat
open Go.RowKit Go.Shelf
attribute [local go_sem] run_store_float
/-- A name, or what a word does to rules. -/
def namedP (ok : Bool) (R : List Tok → Option (Tree × List Tok)) (ts : List Tok) (x : Bs) : Option (Tree × List Tok) :=
  if x = wor ∨ x = wand ∨ x = wnot then none
  else match adv ok ts with
  | none => none
  | some r =>
    if x = wlen ∨ x = wabs then (match inside ok R r with
      | none => none
      | some (a, r') => some (one x a, r'))
    else if x = whas then hasP ok R r
    else some (.mk wname 0 x [], r)
theorem tx_ne {a b : Bs} (h : a ≠ b) : ((tx a).toList == b) = false := by rw [tx_toList]; simpa using h
theorem tx_same (a : Bs) : ((tx a).toList == a) = true := by rw [tx_toList]; simp
/-- A name's node. -/
theorem node_leaf (A : Nat → Prop) (w : World) (op x : Bs) (n : Nat) : NodeV A w (.agg #[.string (tx op), .float .f64 n, .string (tx x), .slice none 0 0]) (.mk op n x []) :=
  ⟨none, 0, rfl, Nat.le_refl _, fun _ => rfl, fun a ha => by cases ha⟩
/-- next, from where a piece stands. -/
def NextC (r : Nat) (s : Bs) (ok : Bool) : Prop := ∀ ts W, ts ≠ [] → St r s ok ts W → Calls Tryz.prog 82 #[.pointer (some ⟨r, 0, none⟩)] W (AdvEnd r s ok (adv ok ts) W)
set_option maxRecDepth 100000 in
set_option maxHeartbeats 4000000 in
theorem wnamed_bad (V : Bs → Nat) (s : Bs) (ok : Bool) (n : Nat) (x : Bs) (hx : x = wor ∨ x = wand ∨ x = wnot) (r : Nat) (ts : List Tok) (w : World) (hst : St r s ok ts w) :
    Calls Tryz.prog 166 #[.pointer (some ⟨r, 0, none⟩), .string (tx x)] w (PEnd r s ok (namedP ok (P V ok n .or) ts x) w) := by
  have HI := Lib.hid (RI.start (v0 := .string ⟨#[]⟩) (v1 := .float .f64 0) (v2 := .string ⟨#[]⟩) (v3 := .slice none 0 0) hst)
  have HV : Hid (namedP ok (P V ok n .or) ts x = none) := Lib.hid (by unfold namedP; rw [if_pos hx])
  rw [HV.out]
  clear hst HV
  rcases hx with rfl | rfl | rfl
  · have b1 := tx_same wor
    unfold wor at b1 ⊢
    generalize tx [111, 114] = T at b1 ⊢
    go_enter Tryz.func166, Tryz.ntmps166
    go_wp2
    exact ⟨rfl, HI.out.bt, .inl ⟨rfl, rfl⟩⟩
  · have b1 := tx_same wand
    have b2 : ((tx wand).toList == [111, 114]) = false := tx_ne (by decide)
    unfold wand at b1 b2 ⊢
    generalize tx [97, 110, 100] = T at b1 b2 ⊢
    go_enter Tryz.func166, Tryz.ntmps166
    go_wp2
    exact ⟨rfl, HI.out.bt, .inl ⟨rfl, rfl⟩⟩
  · have b1 := tx_same wnot
    have b2 : ((tx wnot).toList == [111, 114]) = false := tx_ne (by decide)
    have b3 : ((tx wnot).toList == [97, 110, 100]) = false := tx_ne (by decide)
    unfold wnot at b1 b2 b3 ⊢
    generalize tx [110, 111, 116] = T at b1 b2 b3 ⊢
    go_enter Tryz.func166, Tryz.ntmps166
    go_wp2
    exact ⟨rfl, HI.out.bt, .inl ⟨rfl, rfl⟩⟩
set_option maxRecDepth 100000 in
set_option maxHeartbeats 4000000 in
theorem wnamed_name (V : Bs → Nat) (s : Bs) (ok : Bool) (hs : s.length ≤ 1000000) (n : Nat) (x : Bs) (hx : x ≠ wor ∧ x ≠ wand ∧ x ≠ wnot ∧ x ≠ wlen ∧ x ≠ wabs ∧ x ≠ whas) (r : Nat) (ts : List Tok) (w : World) (hne : ts ≠ []) (hst : St r s ok ts w) :
    Calls Tryz.prog 166 #[.pointer (some ⟨r, 0, none⟩), .string (tx x)] w (PEnd r s ok (namedP ok (P V ok n .or) ts x) w) := by
  have HI := Lib.hid (RI.start (v0 := .string ⟨#[]⟩) (v1 := .float .f64 0) (v2 := .string ⟨#[]⟩) (v3 := .slice none 0 0) hst)
  have HV : Hid (namedP ok (P V ok n .or) ts x = match adv ok ts with | none => none | some r => some (.mk wname 0 x [], r)) := Lib.hid (by
    unfold namedP
    rw [if_neg (fun h => h.elim hx.1 (fun h => h.elim hx.2.1 hx.2.2.1))]
    cases adv ok ts with
    | none => rfl
    | some r => simp only; rw [if_neg (fun h => h.elim hx.2.2.2.1 hx.2.2.2.2.1), if_neg hx.2.2.2.2.2])
  obtain ⟨res, hres⟩ : ∃ y, y = namedP ok (P V ok n .or) ts x := ⟨_, rfl⟩
  rw [← hres] at HV ⊢
  have HA := Lib.hid (fun W h => wadv r s ok ts hs hne W h)
  have b1 : ((tx x).toList == [111, 114]) = false := tx_ne hx.1
  have b2 : ((tx x).toList == [97, 110, 100]) = false := tx_ne hx.2.1
  have b3 : ((tx x).toList == [110, 111, 116]) = false := tx_ne hx.2.2.1
  have b4 : ((tx x).toList == [108, 101, 110]) = false := tx_ne hx.2.2.2.1
  have b5 : ((tx x).toList == [97, 98, 115]) = false := tx_ne hx.2.2.2.2.1
  have b6 : ((tx x).toList == [104, 97, 115]) = false := tx_ne hx.2.2.2.2.2
  clear hst hres hx hne hs
  go_enter Tryz.func166, Tryz.ntmps166
  go_wp2_with (first | (go_at_call 82; fail))
  clear b1 b2 b3 b4 b5 b6
  generalize w.alloc (.cells #[.string ⟨#[]⟩, .float .f64 0, .string ⟨#[]⟩, .slice none 0 0] 119) = W0 at HI ⊢
  refine (HA.out W0 HI.out.st).mono ?_
  rintro e w3 ⟨hb3, ⟨h1, rfl⟩ | ⟨t1, h1, rfl, hst3⟩⟩
  · have HB := Lib.hid (And.intro hb3 h1)
    clear hb3 h1
    go_wp2
    exact ⟨rfl, HI.out.bt.trans HB.out.1, .inl ⟨by rw [HV.out, HB.out.2], rfl⟩⟩
  have HI3 := Lib.hid (HI.out.but hb3 hst3)
  have HT := Lib.hid h1
  obtain ⟨z0, z1, z2, z3, hz⟩ := HI3.out.res
  have HZ := Lib.hid hz
  obtain ⟨b0, b1, b2, b3, bf⟩ := hz.cells
  have f0 := bf 0
  have f1 := bf 1
  have f2 := bf 2
  have f3 := bf 3
  clear hz bf hb3 h1 hst3
  go_wp2
  rw [HV.out, HT.out]
  exact bodyPost_ret (node_res rfl _ _ w.heap.size _ _ _ _ rfl HZ.out.put.heap) rfl (RI.done HI3.out (node_leaf _ _ wname x 0))
end Go.Proofs.YtdomglkcfecnnaaGreat
/- Walks: desc: Name; the reference's Name, within. -/
namespace Go.Proofs.YtdomglkcfecnnaaGreat
open Go.RowKit Go.Shelf
/-- The classes of a sign, with the tests that tell them. -/
theorem sign_cases (c : UInt8) :
    (¬ 97 ≤ (c.toNat : Int) ∧ (c.toNat : Int) ≤ 122 ∧ ¬ 48 ≤ (c.toNat : Int) ∧ (c.toNat : Int) ≤ 57 ∧ ((c.toNat : Int) == 95) = false ∧ ltrA c = false ∧ othA c = false) ∨
    (¬ 97 ≤ (c.toNat : Int) ∧ (c.toNat : Int) ≤ 122 ∧ 48 ≤ (c.toNat : Int) ∧ (c.toNat : Int) ≤ 57 ∧ ((c.toNat : Int) == 95) = false ∧ ltrA c = false ∧ othA c = true) ∨
    (¬ 97 ≤ (c.toNat : Int) ∧ (c.toNat : Int) ≤ 122 ∧ 48 ≤ (c.toNat : Int) ∧ ¬ (c.toNat : Int) ≤ 57 ∧ ((c.toNat : Int) == 95) = false ∧ ltrA c = false ∧ othA c = false) ∨
    (¬ 97 ≤ (c.toNat : Int) ∧ (c.toNat : Int) ≤ 122 ∧ 48 ≤ (c.toNat : Int) ∧ ¬ (c.toNat : Int) ≤ 57 ∧ ((c.toNat : Int) == 95) = true ∧ ltrA c = false ∧ othA c = true) ∨
    (97 ≤ (c.toNat : Int) ∧ (c.toNat : Int) ≤ 122 ∧ 48 ≤ (c.toNat : Int) ∧ ¬ (c.toNat : Int) ≤ 57 ∧ ((c.toNat : Int) == 95) = false ∧ ltrA c = true ∧ othA c = false) ∨
    (97 ≤ (c.toNat : Int) ∧ ¬ (c.toNat : Int) ≤ 122 ∧ 48 ≤ (c.toNat : Int) ∧ ¬ (c.toNat : Int) ≤ 57 ∧ ((c.toNat : Int) == 95) = false ∧ ltrA c = false ∧ othA c = false) := by
  unfold ltrA othA
  by_cases h1 : c.toNat < 48
  · refine .inl ⟨by omega, by omega, by omega, by omega, by simp; omega, by simp; omega, by simp; omega⟩
  by_cases h2 : c.toNat ≤ 57
  · refine .inr (.inl ⟨by omega, by omega, by omega, by omega, by simp; omega, by simp; omega, by simp; omega⟩)
  by_cases h3 : c.toNat = 95
  · refine .inr (.inr (.inr (.inl ⟨by omega, by omega, by omega, by omega, by simp; omega, by simp; omega, by simp; omega⟩)))
  by_cases h4 : c.toNat < 97
  · refine .inr (.inr (.inl ⟨by omega, by omega, by omega, by omega, by simp; omega, by simp; omega, by simp; omega⟩))
  by_cases h5 : c.toNat ≤ 122
  · refine .inr (.inr (.inr (.inr (.inl ⟨by omega, by omega, by omega, by omega, by simp; omega, by simp; omega, by simp; omega⟩))))
  · refine .inr (.inr (.inr (.inr (.inr ⟨by omega, by omega, by omega, by omega, by simp; omega, by simp; omega, by simp; omega⟩))))
theorem kw_cases (l : Bs) :
    (l ∈ kwds ∧ ((tx l).toList == [111, 114]) = true) ∨
    (l ∈ kwds ∧ ((tx l).toList == [111, 114]) = false ∧ ((tx l).toList == [97, 110, 100]) = true) ∨
    (l ∈ kwds ∧ ((tx l).toList == [111, 114]) = false ∧ ((tx l).toList == [97, 110, 100]) = false ∧ ((tx l).toList == [110, 111, 116]) = true) ∨
    (l ∈ kwds ∧ ((tx l).toList == [111, 114]) = false ∧ ((tx l).toList == [97, 110, 100]) = false ∧ ((tx l).toList == [110, 111, 116]) = false ∧ ((tx l).toList == [108, 101, 110]) = true) ∨
    (l ∈ kwds ∧ ((tx l).toList == [111, 114]) = false ∧ ((tx l).toList == [97, 110, 100]) = false ∧ ((tx l).toList == [110, 111, 116]) = false ∧ ((tx l).toList == [108, 101, 110]) = false ∧ ((tx l).toList == [104, 97, 115]) = true) ∨
    (l ∈ kwds ∧ ((tx l).toList == [111, 114]) = false ∧ ((tx l).toList == [97, 110, 100]) = false ∧ ((tx l).toList == [110, 111, 116]) = false ∧ ((tx l).toList == [108, 101, 110]) = false ∧ ((tx l).toList == [104, 97, 115]) = false ∧ ((tx l).toList == [97, 98, 115]) = true) ∨
    (l ∉ kwds ∧ ((tx l).toList == [111, 114]) = false ∧ ((tx l).toList == [97, 110, 100]) = false ∧ ((tx l).toList == [110, 111, 116]) = false ∧ ((tx l).toList == [108, 101, 110]) = false ∧ ((tx l).toList == [104, 97, 115]) = false ∧ ((tx l).toList == [97, 98, 115]) = false) := by
  by_cases e0 : l = [111, 114]
  · exact .inl ⟨by rw [e0]; decide, by rw [e0]; exact tx_same _⟩
  by_cases e1 : l = [97, 110, 100]
  · exact .inr (.inl ⟨by rw [e1]; decide, tx_ne e0, by rw [e1]; exact tx_same _⟩)
  by_cases e2 : l = [110, 111, 116]
  · exact .inr (.inr (.inl ⟨by rw [e2]; decide, tx_ne e0, tx_ne e1, by rw [e2]; exact tx_same _⟩))
  by_cases e3 : l = [108, 101, 110]
  · exact .inr (.inr (.inr (.inl ⟨by rw [e3]; decide, tx_ne e0, tx_ne e1, tx_ne e2, by rw [e3]; exact tx_same _⟩)))
  by_cases e4 : l = [104, 97, 115]
  · exact .inr (.inr (.inr (.inr (.inl ⟨by rw [e4]; decide, tx_ne e0, tx_ne e1, tx_ne e2, tx_ne e3, by rw [e4]; exact tx_same _⟩))))
  by_cases e5 : l = [97, 98, 115]
  · exact .inr (.inr (.inr (.inr (.inr (.inl ⟨by rw [e5]; decide, tx_ne e0, tx_ne e1, tx_ne e2, tx_ne e3, tx_ne e4, by rw [e5]; exact tx_same _⟩)))))
  · exact .inr (.inr (.inr (.inr (.inr (.inr ⟨by simp [kwds, e0, e1, e2, e3, e4, e5], tx_ne e0, tx_ne e1, tx_ne e2, tx_ne e3, tx_ne e4, tx_ne e5⟩)))))
theorem name_len {l : Bs} (h : decide (1 ≤ l.length ∧ l.length ≤ 16) = false) : nameP l = false := by unfold nameP; rw [h]; rfl
theorem name_bad {l : Bs} {i : Nat} (hi : i < l.length) (h : signA l i = false) : nameP l = false := by
  unfold nameP
  have : (List.range l.length).all (signA l) = false := by rw [List.all_eq_false]; exact ⟨i, List.mem_range.2 hi, by rw [h]; simp⟩
  rw [this]; simp
theorem name_end {l : Bs} (h0 : decide (1 ≤ l.length ∧ l.length ≤ 16) = true) (h : ∀ i, i < l.length → signA l i = true) : nameP l = decide (l ∉ kwds) := by
  unfold nameP
  have : (List.range l.length).all (signA l) = true := by rw [List.all_eq_true]; exact fun i hi => h i (List.mem_range.1 hi)
  rw [this, h0]; simp
set_option maxRecDepth 100000 in
set_option maxHeartbeats 8000000 in
theorem dName (l : Bs) (w : World) : Calls Tryz.prog 67 #[.string (tx l)] w fun e w' => e = .returned (.bool (nameP l)) ∧ w = w' := by
  have HS := Lib.hid (tx_size' l)
  have HT := Lib.hid (fun i (hi : i < l.length) => tx_at l i hi)
  have HW : Hid (∀ W, Calls Tryz.prog 29 #[.int .i64 ((tx l).size : Nat), .int .i64 1, .int .i64 16] W fun e w' => e = .returned (.bool (decide (1 ≤ l.length ∧ l.length ≤ 16))) ∧ W = w') := Lib.hid (fun W => by
    have h := dwithin ((tx l).size : Nat) 1 16 W
    rw [tx_size'] at h ⊢
    rw [show decide (1 ≤ l.length ∧ l.length ≤ 16) = decide ((1 : Int) ≤ (l.length : Int) ∧ (l.length : Int) ≤ 16) from by rw [decide_eq_decide]; omega]
    exact h)
  cases hd : decide (1 ≤ l.length ∧ l.length ≤ 16)
  · rw [hd] at HW
    rw [name_len hd]
    clear hd
    go_enter Tryz.func67, Tryz.ntmps67
    go_wp2_with (first | (go_at_call 29; refine (HW.out _).mono ?_; rintro e w1 ⟨rfl, rfl⟩))
    go_ret
    exact ⟨rfl, rfl⟩
  · rw [hd] at HW
    have HBAD := Lib.hid (fun i (hi : i < l.length) (h : signA l i = false) => name_bad hi h)
    have HEND := Lib.hid (fun (h : ∀ i, i < l.length → signA l i = true) => name_end hd h)
    have HLN : Hid (l.length ≤ 16) := Lib.hid (by simp at hd; omega)
    obtain ⟨R, hR⟩ : ∃ R, R = nameP l := ⟨_, rfl⟩
    rw [← hR] at HBAD HEND ⊢
    clear hd hR
    go_enter Tryz.func67, Tryz.ntmps67
    go_wp2_with (first | (go_at_call 29; refine (HW.out _).mono ?_; rintro e w1 ⟨rfl, rfl⟩))
    go_loop [3] (fun i => ∃ j : Nat, i = .int .i64 j ∧ j ≤ l.length ∧ Hid (∀ i, i < j → signA l i = true)) (fun i => l.length - (intOf i).toNat)
    case atStart => exact ⟨0, rfl, Nat.zero_le _, Lib.hid (fun i hi => absurd hi (by omega))⟩
    case round =>
      obtain ⟨j, rfl, hj, hc⟩ := hrel
      have jl : j ≤ 1000000 := by have := HLN.out; omega
      by_cases q1 : j < (tx l).size
      · have q1' : j < l.length := by have := HS.out; omega
        have hx := HT.out j q1'
        obtain ⟨c, hcd⟩ : ∃ c, c = l.getD j 0 := ⟨_, rfl⟩
        rw [← hcd] at hx
        have HSG : Hid (signA l j = (ltrA c || (decide (j ≠ 0) && othA c))) := Lib.hid (by unfold signA; rw [← hcd])
        clear hcd
        by_cases j0 : j = 0
        · subst j0
          rcases sign_cases c with ⟨t1, t2, t3, t4, t5, ha, hb⟩ | ⟨t1, t2, t3, t4, t5, ha, hb⟩ | ⟨t1, t2, t3, t4, t5, ha, hb⟩ | ⟨t1, t2, t3, t4, t5, ha, hb⟩ | ⟨t1, t2, t3, t4, t5, ha, hb⟩ | ⟨t1, t2, t3, t4, t5, ha, hb⟩
          all_goals rw [ha, hb] at HSG; clear ha hb
          case inr.inr.inr.inr.inl =>
            have HN := Lib.hid (fun i (hi : i < 0 + 1) => show signA l i = true from by obtain rfl : i = 0 := (by omega); exact HSG.out)
            go_wp2
            go_round
            case rel => exact ⟨1, by go_num, by omega, Lib.hid HN.out⟩
            case measure => simp [intOf]; omega
          all_goals
            have HR : Hid (R = false) := Lib.hid (HBAD.out 0 q1' HSG.out)
            clear HBAD
            go_wp2
            go_ret
            exact ⟨ret_bool HR.out.symm, rfl⟩
        · have hj0 : ((j : Int) == 0) = false := by simpa using (show ¬ ((j : Int) = 0) by omega)
          rw [decide_eq_true j0] at HSG
          clear j0
          rcases sign_cases c with ⟨t1, t2, t3, t4, t5, ha, hb⟩ | ⟨t1, t2, t3, t4, t5, ha, hb⟩ | ⟨t1, t2, t3, t4, t5, ha, hb⟩ | ⟨t1, t2, t3, t4, t5, ha, hb⟩ | ⟨t1, t2, t3, t4, t5, ha, hb⟩ | ⟨t1, t2, t3, t4, t5, ha, hb⟩
          all_goals rw [ha, hb] at HSG; clear ha hb
          all_goals
            first
              | (have HSG2 : Hid (signA l j = false) := Lib.hid HSG.out
                 have HR : Hid (R = false) := Lib.hid (HBAD.out j q1' HSG2.out)
                 clear HBAD
                 go_wp2
                 go_ret
                 exact ⟨ret_bool HR.out.symm, rfl⟩)
              | (have HN := Lib.hid (fun i (hi : i < j + 1) => show signA l i = true from by
                   rcases Nat.lt_or_ge i j with z | z
                   · exact hc.out i z
                   · obtain rfl : i = j := (by omega)
                     exact HSG.out)
                 go_wp2
                 go_round
                 case rel => exact ⟨j + 1, by go_num, by omega, Lib.hid HN.out⟩
                 case measure => simp [intOf]; omega)
      · have HR := Lib.hid (HEND.out (fun i hi => hc.out i (by have := HS.out; omega)))
        clear HEND HBAD
        rcases kw_cases l with ⟨hk, b1⟩ | ⟨hk, b1, b2⟩ | ⟨hk, b1, b2, b3⟩ | ⟨hk, b1, b2, b3, b4⟩ | ⟨hk, b1, b2, b3, b4, b5⟩ | ⟨hk, b1, b2, b3, b4, b5, b6⟩ | ⟨hk, b1, b2, b3, b4, b5, b6⟩
        case inr.inr.inr.inr.inr.inr =>
          have HR2 : Hid (R = true) := Lib.hid (by rw [HR.out]; simpa using hk)
          clear hk HR
          go_wp2
          go_ret
          exact ⟨ret_bool HR2.out.symm, rfl⟩
        all_goals
          have HR2 : Hid (R = false) := Lib.hid (by rw [HR.out]; simpa using hk)
          clear hk HR
          go_wp2
          go_ret
          exact ⟨ret_bool HR2.out.symm, rfl⟩
end Go.Proofs.YtdomglkcfecnnaaGreat
