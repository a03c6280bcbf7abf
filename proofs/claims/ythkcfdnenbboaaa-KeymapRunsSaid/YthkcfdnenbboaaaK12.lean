/- Walk: Key of the program. -/
import Derived.Test.YthkcfdnenbboaaaK11
import Derived.Laws.Rows
import Derived.Outline
import Derived.Deep.CutBlock
namespace Go.Proofs.Ythkcfdnenbboaaa
open Go.RowKit Go.Shelf
theorem wcutp (s p : List UInt8) (w : World) : Calls Try.prog 37 #[.string (mkS s), .string (mkS p)] w fun e w' => e = .returned (.tuple #[.string (mkS (Lib.trimPrefix s p)), .bool (Lib.hasPrefix s p)]) ∧ w = w' := by
  refine (Try.strings_CutPrefix (mkS s) (mkS p) w).mono ?_
  rintro e w' ⟨rfl, rfl⟩
  exact ⟨rfl, rfl⟩
def kyCells (k : Ky) : Array Value := #[.int .i64 k.code, .string k.s, .int .i64 k.n, .bool k.alt, .bool k.shift, .bool k.ctl]
/-- A block that holds a key. -/
def KyAt (w : World) (b : Nat) (k : Ky) : Prop := w.heap[b]? = some (.cells (kyCells k) 27 (0, 0))
theorem KyAt.get {w : World} {b : Nat} {k : Ky} (h : KyAt w b k) : w.cell? ⟨b, 0, none⟩ = some (.int .i64 k.code) ∧ w.cell? ⟨b, 1, none⟩ = some (.string k.s) ∧ w.cell? ⟨b, 2, none⟩ = some (.int .i64 k.n) ∧ w.cell? ⟨b, 3, none⟩ = some (.bool k.alt) ∧ w.cell? ⟨b, 4, none⟩ = some (.bool k.shift) ∧ w.cell? ⟨b, 5, none⟩ = some (.bool k.ctl) ∧ (∀ o, w.frozen? ⟨b, o, none⟩ = false) ∧ b < w.heap.size := by
  unfold KyAt kyCells at h
  exact ⟨by simp [World.cell?, h], by simp [World.cell?, h], by simp [World.cell?, h], by simp [World.cell?, h], by simp [World.cell?, h], by simp [World.cell?, h], fun o => by simp [World.frozen?, h], (Array.getElem?_eq_some_iff.1 h).1⟩
theorem KyAt.kept {w w' : World} {b n : Nat} {k : Ky} (h : KyAt w b k) (hb : b < n) (hB : Below n w w') : KyAt w' b k := (hB.block b hb).trans h
theorem set_block {w : World} {b o : Nat} {cur : Array Value} {T : TypeId} {r : Nat × Nat} (h : w.heap[b]? = some (.cells cur T r)) (v : Value) : (w.setCell ⟨b, o, none⟩ v).heap[b]? = some (.cells (cur.setIfInBounds o v) T r) := by
  obtain ⟨hlt, hk⟩ := Array.getElem?_eq_some_iff.1 h
  show (w.heap.modify b _)[b]? = _
  rw [Array.getElem?_eq_getElem (by rw [Array.size_modify]; exact hlt), Array.getElem_modify_self, hk]
  rfl
def kyZero : Ky := ⟨0, ⟨#[]⟩, 0, false, false, false⟩
def keyK (n : List UInt8) : Ky := (parse n).getD kyZero
def keyE (n : List UInt8) : Int := if (parse n).isSome then 0 else 80
def KeyEnd (n : List UInt8) (w : World) (e : Ending) (w' : World) : Prop := e = .returned (.tuple #[(keyK n).v, .int .i64 (keyE n)]) ∧ Below w.heap.size w w'
theorem results_cell_tmp {P : Program} {fn : Func} {p q : Tmp} {ty : TypeId} (h : fn.results = #[.cell p ty, .tmp q]) (tmps : Array Value) (w : World) (g : Nat) (t : TypeId) (cs : Array Value) (fr : Nat × Nat) (d : TypeDesc)
    (hp : tmps.getD p undef = .pointer (some ⟨g, 0, none⟩)) (hg : w.heap[g]? = some (.cells cs t fr))
    (hu : P.underlying ty = some d) (hd : (match d with | .struct _ | .array _ _ => true | _ => false) = true) (hi : (P.info? ty).map (·.size) = some cs.size) :
    (results fn tmps).run P w = .ok (.tuple #[.agg cs, tmps.getD q undef]) w := by
  have hp' : tmps[p]?.getD undef = .pointer (some ⟨g, 0, none⟩) := by simpa using hp
  simp [results, h, hp', asAddr, run_loadVar_row w g t ty cs fr d hg hu hd hi]
/-- The state of Key behind its switch. -/
structure KS (w : World) (k : Ky) (wx : World) : Prop where
  res : KyAt wx w.heap.size kyZero
  box : KyAt wx (w.heap.size + 1) k
  bel : Below w.heap.size w wx
theorem KS.kept {w : World} {k : Ky} {w1 w2 : World} (h : KS w k w1) (hb : Below w1.heap.size w1 w2) : KS w k w2 :=
  ⟨h.res.kept h.res.get.2.2.2.2.2.2.2 hb, h.box.kept h.box.get.2.2.2.2.2.2.2 hb, h.bel.trans (below_le hb h.bel.size)⟩
theorem wnameS (k : Ky) (hk : k.In) (w : World) : Calls Try.prog 17 #[k.v] w fun e w' => e = .returned (.string (mkS k.name)) ∧ Below w.heap.size w w' := wname k hk w
theorem set_other {w : World} {b j : Nat} {o : Nat} {v : Value} (h : j ≠ b) : (w.setCell ⟨b, o, none⟩ v).heap[j]? = w.heap[j]? := Below.heap_setCell _ _ _ _ h
theorem ks_at (w : World) (k : Ky) : KS w k ((w.alloc (.cells (kyCells kyZero) 27)).alloc (.cells (kyCells k) 27)) :=
  ⟨(heap_alloc_old _ _ (by simp)).trans (heap_alloc_new _ _), by have := heap_alloc_new (w.alloc (.cells (kyCells kyZero) 27)) (.cells (kyCells k) 27); unfold KyAt; simpa using this, ((Below.refl w.heap.size w).alloc (Nat.le_refl _) _).alloc (by simp) _⟩
theorem KyAt.stored {w : World} {b : Nat} {k0 : Ky} (h : KyAt w b k0) (k : Ky) : (((((( w.setCell ⟨b, 0, none⟩ (.int .i64 k.code)).setCell ⟨b, 1, none⟩ (.string k.s)).setCell ⟨b, 2, none⟩ (.int .i64 k.n)).setCell ⟨b, 3, none⟩ (.bool k.alt)).setCell ⟨b, 4, none⟩ (.bool k.shift)).setCell ⟨b, 5, none⟩ (.bool k.ctl)).heap[b]? = some (.cells (kyCells k) 27 (0, 0)) :=
  set_block (set_block (set_block (set_block (set_block (set_block h _) _) _) _) _) _
theorem below_stored {n : Nat} {w0 w : World} (h : Below n w0 w) {b : Nat} (hb : n ≤ b) {v0 v1 v2 v3 v4 v5 : Value} : Below n w0 ((((((w.setCell ⟨b, 0, none⟩ v0).setCell ⟨b, 1, none⟩ v1).setCell ⟨b, 2, none⟩ v2).setCell ⟨b, 3, none⟩ v3).setCell ⟨b, 4, none⟩ v4).setCell ⟨b, 5, none⟩ v5) :=
  (((((h.setCell (p := ⟨b, 0, none⟩) hb v0).setCell (p := ⟨b, 1, none⟩) hb v1).setCell (p := ⟨b, 2, none⟩) hb v2).setCell (p := ⟨b, 3, none⟩) hb v3).setCell (p := ⟨b, 4, none⟩) hb v4).setCell (p := ⟨b, 5, none⟩) hb v5
theorem mods_len (n : List UInt8) : (mods n).s.length ≤ n.length := by
  unfold mods
  have h1 := Lib.trimPrefix_le n pAlt
  have h2 := Lib.trimPrefix_le (Lib.trimPrefix n pAlt) pCtl
  have h3 := Lib.trimPrefix_le (Lib.trimPrefix (Lib.trimPrefix n pAlt) pCtl) pShift
  simp only []
  omega
theorem cand_in (n : List UInt8) (hn : n.length ≤ 100000) : (cand n).In := by
  have h0 := mods_len n
  unfold cand candP
  split
  · have h1 := Lib.trimPrefix_le (mods n).s pText
    exact ⟨by simp only []; omega, by simp only []; omega, by simp only [mkS_size]; omega⟩
  · split
    · have h1 := Lib.trimPrefix_le (mods n).s pCtrl
      exact ⟨by simp only []; omega, by simp only []; omega, by simp only [mkS_size]; omega⟩
    · refine ⟨?_, ?_, by simp only []; decide⟩
      all_goals (
        simp only []
        unfold codeN
        split
        · rename_i i hi
          rw [List.find?_range_eq_some] at hi
          have := hi.2.1
          simp at this
          simp only []
          omega
        · have := idx_bd codesL (mkS (mods n).s)
          have hl : codesL.length = 18 := rfl
          simp only []
          omega)
theorem key_some {n : List UInt8} {k : Ky} (h : parse n = some k) : keyK n = k ∧ keyE n = 0 := by simp [keyK, keyE, h]
theorem key_none {n : List UInt8} (h : parse n = none) : keyK n = kyZero ∧ keyE n = 80 := by simp [keyK, keyE, h]
set_option maxRecDepth 100000 in
set_option maxHeartbeats 4000000 in
theorem wkey (n : List UInt8) (hn : n.length ≤ 100000) (w : World) : Calls Try.prog 13 #[.string (mkS n)] w (KeyEnd n w) := by
  have HI := Lib.hid (cand_in n hn)
  obtain ⟨M, hM⟩ : ∃ M, M = mods n := ⟨_, rfl⟩
  obtain ⟨al, ct, sh, s⟩ := M
  have hal : Lib.hasPrefix n pAlt = al := (congrArg Mods.al hM).symm
  obtain ⟨s1, hs1⟩ : ∃ x, x = Lib.trimPrefix n pAlt := ⟨_, rfl⟩
  have hct : Lib.hasPrefix s1 pCtl = ct := by rw [hs1]; exact (congrArg Mods.ct hM).symm
  obtain ⟨s2, hs2⟩ : ∃ x, x = Lib.trimPrefix s1 pCtl := ⟨_, rfl⟩
  have hsh : Lib.hasPrefix s2 pShift = sh := by rw [hs2, hs1]; exact (congrArg Mods.sh hM).symm
  have hs3 : Lib.trimPrefix s2 pShift = s := by rw [hs2, hs1]; exact (congrArg Mods.s hM).symm
  have C1 := Lib.hid (fun W => wcutp n pAlt W)
  rw [hal, ← hs1] at C1
  have C2 := Lib.hid (fun W => wcutp s1 pCtl W)
  rw [hct, ← hs2] at C2
  have C3 := Lib.hid (fun W => wcutp s2 pShift W)
  rw [hsh, hs3] at C3
  have C4 := Lib.hid (fun W => wcutp s pText W)
  have C5 := Lib.hid (fun W => wcutp s pCtrl W)
  have HC : Hid (cand n = candP al ct sh s) := by show candP _ _ _ _ = _; rw [← hM]
  clear hal hs1 hct hs2 hsh hs3 hM
  obtain ⟨mk, hmk⟩ : ∃ x, x = Lib.hasPrefix s pText := ⟨_, rfl⟩
  obtain ⟨hk, hhk⟩ : ∃ x, x = Lib.hasPrefix s pCtrl := ⟨_, rfl⟩
  rw [← hmk] at C4
  rw [← hhk] at C5
  have C6 := Lib.hid (fun W => wcode s W)
  have HMK := Lib.hid hmk
  have HHK := Lib.hid hhk
  clear hmk hhk
  go_enter Try.func13, Try.ntmps13
  go_wp2_with (first | (go_at_call 37; fail))
  go_at_call 37
  refine (C1.out _).mono ?_
  rintro e w1 ⟨rfl, rfl⟩
  go_wp2_with (first | (go_at_call 37; fail))
  go_at_call 37
  refine (C2.out _).mono ?_
  rintro e w1 ⟨rfl, rfl⟩
  go_wp2_with (first | (go_at_call 37; fail))
  go_at_call 37
  refine (C3.out _).mono ?_
  rintro e w1 ⟨rfl, rfl⟩
  go_wp2_with (first | (go_at_call 37; fail))
  go_at_call 37
  refine (C4.out _).mono ?_
  rintro e w1 ⟨rfl, rfl⟩
  go_wp2_with (first | (go_at_call 37; fail))
  go_at_call 37
  refine (C5.out _).mono ?_
  rintro e w1 ⟨rfl, rfl⟩
  obtain ⟨K, hKK⟩ : ∃ K, K = candP al ct sh s := ⟨_, rfl⟩
  have HKK := Lib.hid hKK
  clear hKK
  have HK : Hid (cand n = K) := by rw [HC.out, HKK.out]; exact rfl
  have HI2 : Hid K.In := by have := HI.out; rwa [HK.out] at this
  clear HI HC C1 C2 C3 C4 C5 hn
  go_upto_block 0 with (fail)
  go_cut [] (fun wx => Hid (KS w K wx))
  case first =>
    have e := HKK.out
    rw [candP, ← HMK.out, ← HHK.out] at e
    cases mk
    · cases hk
      · simp only [Bool.false_and, Bool.false_eq_true, if_false] at e
        have HE := Lib.hid e
        clear e
        go_wp2_with (first | (go_at_call 38; fail))
        go_at_call 38
        refine (C6.out _).mono ?_
        rintro e w2 ⟨rfl, hb⟩
        have h0 := (ks_at w ⟨0, ⟨#[]⟩, 0, al, sh, ct⟩).kept hb
        clear hb
        have h1 := h0.res
        have h2 := h0.box
        have HB := Lib.hid h0.bel
        clear h0
        have HH1 := Lib.hid h1
        have HH2 := Lib.hid h2
        obtain ⟨c0, c1, c2, c3, c4, c5, hf, hl⟩ := h2.get
        have hf0 := hf 0
        have hf2 := hf 2
        clear h1 h2 hf
        go_wp2_with (fail)
        go_meet
        refine Lib.hid ⟨?_, ?_, ?_⟩
        · exact (set_other (by omega)).trans ((set_other (by omega)).trans HH1.out)
        · rw [HE.out]
          exact set_block (set_block HH2.out _) _
        · exact (HB.out.setCell (p := ⟨w.heap.size + 1, 0, none⟩) (by simp) _).setCell (p := ⟨w.heap.size + 1, 2, none⟩) (by simp) _
      · simp only [Bool.false_and, Bool.false_eq_true, if_false, if_true] at e
        have HE := Lib.hid e
        clear e
        go_wp2_with (fail)
        go_meet
        rw [HE.out]
        exact Lib.hid (ks_at _ _)
    · cases al
      · cases hk
        · simp only [Bool.and_false, Bool.false_eq_true, if_false] at e
          have HE := Lib.hid e
          clear e
          go_wp2_with (first | (go_at_call 38; fail))
          go_at_call 38
          refine (C6.out _).mono ?_
          rintro e w2 ⟨rfl, hb⟩
          have h0 := (ks_at w ⟨0, ⟨#[]⟩, 0, false, sh, ct⟩).kept hb
          clear hb
          have h1 := h0.res
          have h2 := h0.box
          have HB := Lib.hid h0.bel
          clear h0
          have HH1 := Lib.hid h1
          have HH2 := Lib.hid h2
          obtain ⟨c0, c1, c2, c3, c4, c5, hf, hl⟩ := h2.get
          have hf0 := hf 0
          have hf2 := hf 2
          clear h1 h2 hf
          go_wp2_with (fail)
          go_meet
          refine Lib.hid ⟨?_, ?_, ?_⟩
          · exact (set_other (by omega)).trans ((set_other (by omega)).trans HH1.out)
          · rw [HE.out]
            exact set_block (set_block HH2.out _) _
          · exact (HB.out.setCell (p := ⟨w.heap.size + 1, 0, none⟩) (by simp) _).setCell (p := ⟨w.heap.size + 1, 2, none⟩) (by simp) _
        · simp only [Bool.and_false, Bool.false_eq_true, if_false, if_true] at e
          have HE := Lib.hid e
          clear e
          go_wp2_with (fail)
          go_meet
          rw [HE.out]
          exact Lib.hid (ks_at _ _)
      · simp only [Bool.true_and, if_true] at e
        have HE := Lib.hid e
        clear e
        go_wp2_with (fail)
        go_meet
        rw [HE.out]
        exact Lib.hid (ks_at _ _)
  case rest =>
    have HS := hcut
    clear hcut
    obtain ⟨c0, c1, c2, c3, c4, c5, hf, hl⟩ := HS.out.box.get
    have HN := Lib.hid (fun W => wnameS K HI2.out W)
    by_cases q1 : K.name = n
    · by_cases q2 : n = []
      · have t1 : ((mkS K.name).toList != (mkS n).toList) = false := by rw [bne, mkS_beq]; simp [q1]
        have t0 : ((mkS K.name).toList == (mkS n).toList) = true := by rw [mkS_beq]; simp [q1]
        have t2 : (mkS n).toList.isEmpty = true := by rw [q2, ByteArray.toList_eq]; rfl
        have HQ := Lib.hid q2
        clear q1 q2
        go_wp2_with (first | (go_at_call 17; fail))
        go_at_call 17
        refine (HN.out _).mono ?_
        rintro e w2 ⟨rfl, hb⟩
        have H2 := Lib.hid (HS.out.kept hb)
        clear hb c0 c1 c2 c3 c4 c5 hf
        obtain ⟨d0, d1, d2, d3, d4, d5, df, dl⟩ := H2.out.res.get
        go_wp2_with (fail)
        refine bodyPost_ret (results_cell_tmp rfl _ _ w.heap.size 27 (kyCells kyZero) (0, 0) _ rfl (H2.out.res.stored kyZero) Try.underlying27 rfl (by kernel_rfl)) rfl ?_
        obtain ⟨p1, p2⟩ := key_none (n := n) (by unfold parse; rw [if_neg (by intro h; exact h.2 HQ.out)])
        exact ⟨by rw [p1, p2]; rfl, below_stored H2.out.bel (Nat.le_refl _)⟩
      · have t1 : ((mkS K.name).toList != (mkS n).toList) = false := by rw [bne, mkS_beq]; simp [q1]
        have t0 : ((mkS K.name).toList == (mkS n).toList) = true := by rw [mkS_beq]; simp [q1]
        have t2 : (mkS n).toList.isEmpty = false := by
          cases n with
          | nil => exact absurd rfl q2
          | cons a l => rw [ByteArray.toList_eq]; rfl
        have HQ1 := Lib.hid q1
        have HQ := Lib.hid q2
        clear q1 q2
        go_wp2_with (first | (go_at_call 17; fail))
        go_at_call 17
        refine (HN.out _).mono ?_
        rintro e w2 ⟨rfl, hb⟩
        have H2 := Lib.hid (HS.out.kept hb)
        clear hb c0 c1 c2 c3 c4 c5 hf
        obtain ⟨d0, d1, d2, d3, d4, d5, df, dl⟩ := H2.out.res.get
        obtain ⟨c0, c1, c2, c3, c4, c5, cf, cl⟩ := H2.out.box.get
        go_wp2_with (fail)
        refine bodyPost_ret (results_cell_tmp rfl _ _ w.heap.size 27 (kyCells K) (0, 0) _ rfl (H2.out.res.stored K) Try.underlying27 rfl (by kernel_rfl)) rfl ?_
        obtain ⟨p1, p2⟩ := key_some (n := n) (k := K) (by unfold parse; rw [HK.out, if_pos ⟨HQ1.out, HQ.out⟩])
        exact ⟨by rw [p1, p2]; rfl, below_stored H2.out.bel (Nat.le_refl _)⟩
    · have t1 : ((mkS K.name).toList != (mkS n).toList) = true := by rw [bne, mkS_beq]; simp [q1]
      have t0 : ((mkS K.name).toList == (mkS n).toList) = false := by rw [mkS_beq]; simp [q1]
      have HQ := Lib.hid q1
      clear q1
      go_wp2_with (first | (go_at_call 17; fail))
      go_at_call 17
      refine (HN.out _).mono ?_
      rintro e w2 ⟨rfl, hb⟩
      have H2 := Lib.hid (HS.out.kept hb)
      clear hb c0 c1 c2 c3 c4 c5 hf
      obtain ⟨d0, d1, d2, d3, d4, d5, df, dl⟩ := H2.out.res.get
      go_wp2_with (fail)
      refine bodyPost_ret (results_cell_tmp rfl _ _ w.heap.size 27 (kyCells kyZero) (0, 0) _ rfl (H2.out.res.stored kyZero) Try.underlying27 rfl (by kernel_rfl)) rfl ?_
      obtain ⟨p1, p2⟩ := key_none (n := n) (by unfold parse; rw [HK.out, if_neg (by intro h; exact HQ.out h.1)])
      exact ⟨by rw [p1, p2]; rfl, below_stored H2.out.bel (Nat.le_refl _)⟩
end Go.Proofs.Ythkcfdnenbboaaa
