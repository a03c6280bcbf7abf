/- Walk: rest of the reference. -/
import Derived.Test.YthkcfdnenbboaaaK12
import Derived.Laws.Rows
import Derived.Outline
import Derived.Deep.CutBlock
import Derived.Deep.LoopGhost
namespace Go.Proofs.Ythkcfdnenbboaaa
open Go.RowKit Go.Shelf
theorem wbeginsS (s : List UInt8) (p : ByteArray) (w : World) : Calls Try.prog 39 #[.string (mkS s), .string p] w fun e w' => e = .returned (.tuple #[.string (mkS (Lib.trimPrefix s p.data.toList)), .bool (Lib.hasPrefix s p.data.toList)]) ∧ w = w' := wbegins (mkS s) p w
def Hit (al ct sh : Bool) (s : List UInt8) (c : Int) (k : Ky) : Prop := candR c al ct sh s = some k ∧ k.ok = true
def RestEnd (al ct sh : Bool) (s : List UInt8) (w : World) (e : Ending) (w' : World) : Prop :=
  ((∃ c K, 1 ≤ c ∧ c ≤ 18 ∧ Hit al ct sh s c K ∧ e = .returned (.tuple #[K.v, .int .i64 0])) ∨ ((∀ c K, 1 ≤ c → c ≤ 18 → ¬ Hit al ct sh s c K) ∧ e = .returned (.tuple #[kyZero.v, .int .i64 80]))) ∧ Below w.heap.size w w'
/-- The state of rest at a round's head: the key's box, the result's. -/
structure RS (w : World) (k : Ky) (wx : World) : Prop where
  box : KyAt wx w.heap.size k
  res : KyAt wx (w.heap.size + 1) kyZero
  bel : Below w.heap.size w wx
theorem RS.kept {w : World} {k : Ky} {w1 w2 : World} (h : RS w k w1) (hb : Below w1.heap.size w1 w2) : RS w k w2 :=
  ⟨h.box.kept h.box.get.2.2.2.2.2.2.2 hb, h.res.kept h.res.get.2.2.2.2.2.2.2 hb, h.bel.trans (below_le hb h.bel.size)⟩
theorem RS.set0 {w : World} {k : Ky} {w1 : World} (h : RS w k w1) (c : Int) : RS w { k with code := c } (w1.setCell ⟨w.heap.size, 0, none⟩ (.int .i64 c)) :=
  ⟨set_block h.box _, (set_other (by omega)).trans h.res, h.bel.setCell (p := ⟨w.heap.size, 0, none⟩) (Nat.le_refl _) _⟩
theorem RS.set1 {w : World} {k : Ky} {w1 : World} (h : RS w k w1) (c : ByteArray) : RS w { k with s := c } (w1.setCell ⟨w.heap.size, 1, none⟩ (.string c)) :=
  ⟨set_block h.box _, (set_other (by omega)).trans h.res, h.bel.setCell (p := ⟨w.heap.size, 1, none⟩) (Nat.le_refl _) _⟩
theorem RS.set2 {w : World} {k : Ky} {w1 : World} (h : RS w k w1) (c : Int) : RS w { k with n := c } (w1.setCell ⟨w.heap.size, 2, none⟩ (.int .i64 c)) :=
  ⟨set_block h.box _, (set_other (by omega)).trans h.res, h.bel.setCell (p := ⟨w.heap.size, 2, none⟩) (Nat.le_refl _) _⟩
theorem rs_at (w : World) (k : Ky) : RS w k ((w.alloc (.cells (kyCells k) 27)).alloc (.cells (kyCells kyZero) 27)) :=
  ⟨(heap_alloc_old _ _ (by simp)).trans (heap_alloc_new _ _), by have := heap_alloc_new (w.alloc (.cells (kyCells k) 27)) (.cells (kyCells kyZero) 27); unfold KyAt; simpa using this, ((Below.refl w.heap.size w).alloc (Nat.le_refl _) _).alloc (by simp) _⟩
/-- The number found so far among those below m. -/
def NumTo (t : List UInt8) (m : Nat) (N : Int) : Prop := (N = 0 ∧ ∀ i : Nat, 1 ≤ i → i < m → t ≠ (numS i).data.toList) ∨ ∃ j : Nat, 1 ≤ j ∧ j < m ∧ N = j ∧ t = (numS j).data.toList
theorem numTo_end {t : List UInt8} {N : Int} (h : NumTo t 13 N) : N = numOf t := by
  rcases h with ⟨rfl, h⟩ | ⟨j, h1, h2, rfl, rfl⟩
  · have e : (List.range 12).find? (fun i : Nat => t == (numS ((i : Int) + 1)).data.toList) = none := by
      rw [List.find?_range_eq_none]
      intro i hi
      simpa using h (i + 1) (by omega) (by omega)
    simp [numOf, e]
  · exact (numOf_num ⟨h1, by omega⟩).symm
theorem numTo_skip {t : List UInt8} {m : Nat} {N : Int} (h : NumTo t m N) (ht : ¬ t = (numS m).data.toList) : NumTo t (m + 1) N := by
  rcases h with ⟨h1, h2⟩ | ⟨j, h1, h2, h3, h4⟩
  · refine .inl ⟨h1, fun i a b => ?_⟩
    by_cases e : i = m
    · rw [e]; exact ht
    · exact h2 i a (by omega)
  · exact .inr ⟨j, h1, by omega, h3, h4⟩
theorem data_beq (a b : ByteArray) : (a.toList == b.toList) = decide (a.data.toList = b.data.toList) := by
  rw [ByteArray.toList_eq, ByteArray.toList_eq, Bool.eq_iff_iff]; simp
theorem candR_mods {c : Int} {al ct sh : Bool} {s : List UInt8} {k : Ky} (h : candR c al ct sh s = some k) : k.alt = al ∧ k.shift = sh ∧ k.ctl = ct := by
  unfold candR at h
  split at h
  · simp only [] at h
    split at h
    · split at h
      · cases h; exact ⟨rfl, rfl, rfl⟩
      · cases h
    · split at h
      · cases h; exact ⟨rfl, rfl, rfl⟩
      · split at h
        · cases h; exact ⟨rfl, rfl, rfl⟩
        · split at h
          · cases h; exact ⟨rfl, rfl, rfl⟩
          · cases h
  · cases h
theorem numOf_bd (t : List UInt8) : 0 ≤ numOf t ∧ numOf t ≤ 12 := by
  by_cases h : 1 ≤ numOf t
  · obtain ⟨n, a, b, e, _⟩ := numOf_is h
    omega
  · unfold numOf at h ⊢
    split at h <;> omega
theorem candR_in {c : Int} {al ct sh : Bool} {s : List UInt8} {k : Ky} (h1 : 1 ≤ c) (h2 : c ≤ 18) (hs : s.length ≤ 100000) (h : candR c al ct sh s = some k) : k.In := by
  unfold candR at h
  split at h
  · simp only [] at h
    split at h
    · split at h
      · cases h; exact ⟨by simp only []; omega, by simp only []; omega, by simp only [mkS_size, List.length_drop]; omega⟩
      · cases h
    · split at h
      · cases h; exact ⟨by simp only []; omega, by simp only []; omega, by simp only [mkS_size, List.length_drop]; omega⟩
      · split at h
        · cases h; have := numOf_bd (List.drop (codeOf c).size s); exact ⟨by simp only []; omega, by simp only []; omega, by simp only []; decide⟩
        · split at h
          · cases h; exact ⟨by simp only []; omega, by simp only []; omega, by simp only []; decide⟩
          · cases h
  · cases h
theorem no_hit {al ct sh : Bool} {S : List UInt8} {c : Int} (h : candR c al ct sh S = none) : ∀ k, ¬ Hit al ct sh S c k := by
  intro k hk
  have := hk.1
  rw [h] at this
  exact absurd this (by simp)
set_option maxRecDepth 100000 in
set_option maxHeartbeats 4000000 in
theorem wrest (k : Ky) (s : List UInt8) (hs : s.length ≤ 100000) (w : World) : Calls Try.prog 40 #[k.v, .string (mkS s)] w (RestEnd k.alt k.ctl k.shift s w) := by
  obtain ⟨c0, s0, n0, al, sh, ct⟩ := k
  have H0 := Lib.hid (rs_at w ⟨c0, s0, n0, al, sh, ct⟩)
  have HS := Lib.hid hs
  clear hs
  unfold Ky.v
  simp only []
  go_enter Try.func40, Try.ntmps40
  go_wp2_with fail
  go_loopg [6] 18 (fun g i wr => ∃ c : Nat, c + g = 19 ∧ 1 ≤ c ∧ i = .int .i64 c ∧ Hid (∀ (c' : Int) k, 1 ≤ c' → c' < c → ¬ Hit al ct sh s c' k) ∧ Hid (∃ c1 s1 n1, RS w ⟨c1, s1, n1, al, sh, ct⟩ wr))
  case atStart => exact ⟨1, by omega, by omega, rfl, Lib.hid (fun c' k a b => by omega), Lib.hid ⟨_, _, _, H0.out⟩⟩
  case round =>
    clear H0
    obtain ⟨g0, rfl⟩ : ∃ g0, g0 = gk := ⟨_, rfl⟩
    obtain ⟨wo, rfl⟩ : ∃ wo : World, wo = wr := ⟨_, rfl⟩
    obtain ⟨c, hc2, hc1, rfl, HN, HR⟩ := hrel
    obtain ⟨c1, s1, n1, hr⟩ := HR.out
    clear HR
    by_cases hlt : c ≤ 18
    · have hz : w.heap.size < wo.heap.size := hr.box.get.2.2.2.2.2.2.2
      have HREL : Hid (∀ wx K, RS w K wx → K.alt = al → K.shift = sh → K.ctl = ct → (∀ k, ¬ Hit al ct sh s c k) → ∃ c2 : Nat, c2 + (g0 - 1) = 19 ∧ 1 ≤ c2 ∧ Value.int .i64 ((c : Int) + 1) = .int .i64 c2 ∧ Hid (∀ (c' : Int) k, 1 ≤ c' → c' < c2 → ¬ Hit al ct sh s c' k) ∧ Hid (∃ c1 s1 n1, RS w ⟨c1, s1, n1, al, sh, ct⟩ wx)) := by
        intro wx K h1 h2 h3 h4 h5
        obtain ⟨a, b, d, a2, b2, d2⟩ := K
        obtain ⟨rfl, rfl, rfl⟩ : a2 = al ∧ b2 = sh ∧ d2 = ct := ⟨h2, h3, h4⟩
        refine ⟨c + 1, by omega, by omega, by go_num, Lib.hid (fun c' k p q => ?_), Lib.hid ⟨_, _, _, h1⟩⟩
        by_cases r : c' < c
        · exact HN.out c' k p r
        · obtain rfl : c' = (c : Int) := by omega
          exact h5 k
      obtain ⟨q0, q1, q2, q3, q4, q5, qf, _⟩ := hr.box.get
      have hf0 := qf 0
      have hf1 := qf 1
      have hf2 := qf 2
      have H1 := Lib.hid (((hr.set0 c).set1 ⟨#[]⟩).set2 0)
      clear hr qf q3 q4 q5
      have HW := Lib.hid (fun W => wcodeR c (by omega) W)
      have HG := Lib.hid (fun W => wbeginsS s (codeOf c) W)
      go_wp2_with (first | (go_at_call 47; fail))
      go_at_call 47
      refine (HW.out _).mono ?_
      rintro e w1 ⟨rfl, hb⟩
      have H2 := Lib.hid (H1.out.kept hb)
      clear hb H1 q0 q1 q2 hf0 hf1 hf2 hz
      go_wp2_with (first | (go_at_call 39; fail))
      go_at_call 39
      refine (HG.out _).mono ?_
      rintro e w2 ⟨rfl, rfl⟩
      cases hp : Lib.hasPrefix s (codeOf c).data.toList
      · have hno : ∀ k, ¬ Hit al ct sh s c k := by
          intro k h
          have h := h.1
          rw [candR, hp] at h
          simp at h
        have HNO := Lib.hid hno
        have HP := Lib.hid hp
        clear hno hp
        go_wp2
        go_roundg (g0 - 1)
        case measure => omega
        case rel => exact HREL.out _ _ H2.out rfl rfl rfl HNO.out
      · obtain ⟨t, hst⟩ := pre_iff.1 hp
        have htr : Lib.trimPrefix s (codeOf c).data.toList = t := by rw [hst, trim_app]
        rw [htr]
        have HC := Lib.hid (show candR c al ct sh s = if (c : Int) = 1 ∧ al = true then (if Lib.hasPrefix t [46] then some ⟨c, mkS (t.drop 1), 0, al, sh, ct⟩ else none) else if (c : Int) = 17 then some ⟨c, mkS t, 0, al, sh, ct⟩ else if (c : Int) = 18 then some ⟨c, ⟨#[]⟩, numOf t, al, sh, ct⟩ else if t = [] then some ⟨c, ⟨#[]⟩, 0, al, sh, ct⟩ else none from by rw [candR, if_pos hp, hst, drop_code])
        have HSZ : Hid (t.length ≤ 100000) := by have := HS.out; rw [hst] at this; simp at this; exact Lib.hid (by omega)
        clear hp hst htr
        obtain ⟨q0, q1, q2, q3, q4, q5, qf, hz⟩ := H2.out.box.get
        have hf1 := qf 1
        have hf2 := qf 2
        clear q0 q4 q5 qf
        go_upto_block 2 with (fail)
        go_cut [] (fun wx => Hid (∃ K, candR c al ct sh s = some K ∧ RS w K wx))
        case first =>
          by_cases h1 : c = 1
          · subst h1
            cases al
            · by_cases ht : t = []
              · have t2 : (mkS t).toList.isEmpty = true := by rw [ht, ByteArray.toList_eq]; rfl
                have HT := Lib.hid ht
                clear ht
                go_wp2
                go_meet
                exact Lib.hid ⟨⟨((1 : Nat) : Int), ⟨#[]⟩, 0, false, sh, ct⟩, by rw [HC.out]; simp [HT.out], H2.out⟩
              · have t2 : (mkS t).toList.isEmpty = false := by
                  cases t with
                  | nil => exact absurd rfl ht
                  | cons a l => rw [ByteArray.toList_eq]; rfl
                have HT := Lib.hid ht
                clear ht
                go_wp2
                go_roundg (g0 - 1)
                case measure => omega
                case rel => exact HREL.out _ _ H2.out rfl rfl rfl (no_hit (by rw [HC.out]; simp [HT.out]))
            · have HG2 := Lib.hid (fun W => wbeginsS t ⟨#[46]⟩ W)
              go_wp2_with (first | (go_at_call 39; fail))
              go_at_call 39
              refine (HG2.out _).mono ?_
              rintro e w2 ⟨rfl, rfl⟩
              cases hq : Lib.hasPrefix t [46]
              · have HQ := Lib.hid hq
                clear hq
                go_wp2
                go_roundg (g0 - 1)
                case measure => omega
                case rel => exact HREL.out _ _ H2.out rfl rfl rfl (no_hit (by rw [HC.out]; simp [HQ.out]))
              · have HQ := Lib.hid hq
                have HD : Hid (Lib.trimPrefix t [46] = t.drop 1) := Lib.hid (by rw [Lib.trimPrefix, hq]; rfl)
                clear hq
                go_wp2
                go_meet
                refine Lib.hid ⟨⟨((1 : Nat) : Int), mkS (t.drop 1), 0, true, sh, ct⟩, by rw [HC.out]; simp [HQ.out], ?_⟩
                rw [HD.out]
                exact H2.out.set1 _
          by_cases h17 : c = 17
          · subst h17
            go_wp2
            go_meet
            exact Lib.hid ⟨⟨((17 : Nat) : Int), mkS t, 0, al, sh, ct⟩, by rw [HC.out]; simp, H2.out.set1 _⟩
          by_cases h18 : c = 18
          · subst h18
            have HI := Lib.hid H2.out
            clear q1 q2 q3 hf1 hf2 hz
            go_wp2_with fail
            go_loopg [11] 12 (fun g i wx => ∃ m : Nat, m + g = 13 ∧ 1 ≤ m ∧ i = .int .i64 m ∧ Hid (∃ N, NumTo t m N ∧ RS w ⟨((18 : Nat) : Int), ⟨#[]⟩, N, al, sh, ct⟩ wx))
            case atStart => exact ⟨1, by omega, by omega, rfl, Lib.hid ⟨0, .inl ⟨rfl, fun i a b => by omega⟩, HI.out⟩⟩
            case round =>
              clear HI H2
              obtain ⟨m, hm2, hm1, rfl, HM⟩ := hrel
              obtain ⟨N, hN, hr⟩ := HM.out
              clear HM
              have HN2 := Lib.hid hN
              have HR2 := Lib.hid hr
              clear hN hr
              by_cases hl : m ≤ 12
              · have HD := Lib.hid (fun W => wdigits m (by omega) W)
                go_wp2_with (first | (go_at_call 48; fail))
                go_at_call 48
                refine (HD.out _).mono ?_
                rintro e w2 ⟨rfl, hb⟩
                have H3 := Lib.hid (HR2.out.kept hb)
                clear hb
                obtain ⟨q0, q1, q2, q3, q4, q5, qf, hz⟩ := H3.out.box.get
                have hf2 := qf 2
                clear q0 q1 q3 q4 q5 qf
                by_cases ht : t = (numS m).data.toList
                · have t1 : ((numS m).toList == (mkS t).toList) = true := by rw [data_beq, ht]; simp [mkS]
                  have HT := Lib.hid ht
                  clear ht
                  go_wp2
                  go_roundg (gk - 1)
                  case measure => omega
                  case rel => exact ⟨m + 1, by omega, by omega, by go_num, Lib.hid ⟨_, .inr ⟨m, hm1, by omega, rfl, HT.out⟩, H3.out.set2 _⟩⟩
                · have t1 : ((numS m).toList == (mkS t).toList) = false := by rw [data_beq]; exact decide_eq_false (fun e => ht e.symm)
                  have HT := Lib.hid ht
                  clear ht
                  go_wp2
                  go_roundg (gk - 1)
                  case measure => omega
                  case rel => exact ⟨m + 1, by omega, by omega, by go_num, Lib.hid ⟨_, numTo_skip HN2.out HT.out, H3.out⟩⟩
              · obtain rfl : m = 13 := by omega
                go_wp2
                go_meet
                exact Lib.hid ⟨_, by rw [HC.out, if_neg (by omega), if_neg (by omega), if_pos (show ((18 : Nat) : Int) = 18 from rfl), ← numTo_end HN2.out], HR2.out⟩
          · have e1 : ((c : Int) == 1) = false := by simp; omega
            have e2 : ((c : Int) == 17) = false := by simp; omega
            have e3 : ((c : Int) == 18) = false := by simp; omega
            have HX := Lib.hid (And.intro h1 (And.intro h17 h18))
            clear h1 h17 h18
            by_cases ht : t = []
            · have t2 : (mkS t).toList.isEmpty = true := by rw [ht, ByteArray.toList_eq]; rfl
              have HT := Lib.hid ht
              clear ht
              go_wp2
              go_meet
              exact Lib.hid ⟨⟨c, ⟨#[]⟩, 0, al, sh, ct⟩, by rw [HC.out, if_neg (by rintro ⟨a, _⟩; have := HX.out.1; omega), if_neg (by have := HX.out.2.1; omega), if_neg (by have := HX.out.2.2; omega), if_pos HT.out], H2.out⟩
            · have t2 : (mkS t).toList.isEmpty = false := by
                cases t with
                | nil => exact absurd rfl ht
                | cons a l => rw [ByteArray.toList_eq]; rfl
              have HT := Lib.hid ht
              clear ht
              go_wp2
              go_roundg (g0 - 1)
              case measure => omega
              case rel => exact HREL.out _ _ H2.out rfl rfl rfl (no_hit (by rw [HC.out, if_neg (by rintro ⟨a, _⟩; have := HX.out.1; omega), if_neg (by have := HX.out.2.1; omega), if_neg (by have := HX.out.2.2; omega), if_neg HT.out]))
        case rest =>
          clear hf1 hf2 q1 q2 q3 hz H2
          obtain ⟨K, hK, hr⟩ := hcut.out
          have HK := Lib.hid hK
          have HR := Lib.hid hr
          clear hr hcut
          obtain ⟨q0, q1, q2, q3, q4, q5, qf, hz⟩ := HR.out.box.get
          have hkm := candR_mods hK
          have HIn := Lib.hid (candR_in (by omega) (by omega) HS.out hK)
          clear hK
          obtain ⟨kc, ks, kn, kal, ksh, kct⟩ := K
          obtain ⟨rfl, rfl, rfl⟩ := hkm
          cases hok : (Ky.mk kc ks kn kal ksh kct).ok
          · have HCK := Lib.hid (fun W => wcheckR _ HIn.out W)
            have he : (Ky.mk kc ks kn kal ksh kct).err = 80 := by rw [Ky.err, hok]; rfl
            rw [he] at HCK
            have HOK := Lib.hid hok
            clear hok he
            go_wp2_with (first | (go_at_call 16; fail))
            go_at_call 16
            refine (HCK.out _).mono ?_
            rintro e w2 ⟨rfl, hb⟩
            have H3 := Lib.hid (HR.out.kept hb)
            clear hb
            go_wp2
            go_roundg (g0 - 1)
            case measure => omega
            case rel => exact HREL.out _ _ H3.out rfl rfl rfl (fun k h => by have h1 := h.1; rw [HK.out] at h1; have h2 := h.2; rw [← Option.some.inj h1, HOK.out] at h2; exact absurd h2 (by simp))
          · have HCK := Lib.hid (fun W => wcheckR _ HIn.out W)
            have he : (Ky.mk kc ks kn kal ksh kct).err = 0 := by rw [Ky.err, hok]; rfl
            rw [he] at HCK
            have HOK := Lib.hid hok
            clear hok he
            go_wp2_with (first | (go_at_call 16; fail))
            go_at_call 16
            refine (HCK.out _).mono ?_
            rintro e w2 ⟨rfl, hb⟩
            have H3 := Lib.hid (HR.out.kept hb)
            clear hb q0 q1 q2 q3 q4 q5 qf
            obtain ⟨q0, q1, q2, q3, q4, q5, qf, hz⟩ := H3.out.box.get
            obtain ⟨d0, d1, d2, d3, d4, d5, df, dl⟩ := H3.out.res.get
            go_wp2
            refine bodyPost_ret (results_cell_tmp rfl _ _ (w.heap.size + 1) 27 (kyCells ⟨kc, ks, kn, kal, ksh, kct⟩) (0, 0) _ rfl (H3.out.res.stored ⟨kc, ks, kn, kal, ksh, kct⟩) Try.underlying27 rfl (by kernel_rfl)) rfl ?_
            exact ⟨.inl ⟨c, _, by omega, by omega, ⟨HK.out, HOK.out⟩, rfl⟩, below_stored H3.out.bel (by omega)⟩
    · obtain rfl : c = 19 := by omega
      have HR := Lib.hid hr
      clear hr
      obtain ⟨d0, d1, d2, d3, d4, d5, df, dl⟩ := HR.out.res.get
      go_wp2
      refine bodyPost_ret (results_cell_tmp rfl _ _ (w.heap.size + 1) 27 (kyCells kyZero) (0, 0) _ rfl (HR.out.res.stored kyZero) Try.underlying27 rfl (by kernel_rfl)) rfl ?_
      exact ⟨.inr ⟨fun c' K a b => HN.out c' K a (by omega), rfl⟩, below_stored HR.out.bel (by omega)⟩
end Go.Proofs.Ythkcfdnenbboaaa
