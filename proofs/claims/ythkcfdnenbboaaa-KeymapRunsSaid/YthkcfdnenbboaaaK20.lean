/- The law KeymapNames. -/
import Derived.Test.YthkcfdnenbboaaaK19
namespace Go.Proofs.Ythkcfdnenbboaaa
open Go.RowKit Go.Shelf Go.Maps
set_option maxHeartbeats 400000 in
theorem eqIn_ky (n : Nat) (w : World) (c d : Ky) : (Op.equalIn (n + 2) 27 c.v d.v).run Try.prog w
   = .ok ((c.code == d.code) && ((c.s.toList == d.s.toList) && ((c.n == d.n) && ((c.alt == d.alt) && ((c.shift == d.shift) && ((c.ctl == d.ctl) && true)))))) w := by
  unfold Ky.v
  rw [run_equalIn_agg _ _ _ _ _ (by kernel_rfl) (by kernel_rfl)]
  have e : (Try.prog.fieldsOf 27).toList = [⟨"Code", 24, 0, false, "", "", 0⟩, ⟨"S", 9, 1, false, "", "", 8⟩, ⟨"N", 3, 2, false, "", "", 24⟩, ⟨"Alt", 4, 3, false, "", "", 32⟩, ⟨"Shift", 4, 4, false, "", "", 33⟩, ⟨"Ctl", 4, 5, false, "", "", 34⟩] := by kernel_rfl
  rw [e]
  refine eqFields_cons (by decide) (a := .int .i64 c.code) (b := .int .i64 d.code) (by kernel_rfl) (by kernel_rfl) (by simp [go_sem]) ?_
  refine eqFields_cons (by decide) (a := .string c.s) (b := .string d.s) (by kernel_rfl) (by kernel_rfl) (by simp [go_sem]) ?_
  refine eqFields_cons (by decide) (a := .int .i64 c.n) (b := .int .i64 d.n) (by kernel_rfl) (by kernel_rfl) (by simp [go_sem]) ?_
  refine eqFields_cons (by decide) (a := .bool c.alt) (b := .bool d.alt) (by kernel_rfl) (by kernel_rfl) (by simp [go_sem]) ?_
  refine eqFields_cons (by decide) (a := .bool c.shift) (b := .bool d.shift) (by kernel_rfl) (by kernel_rfl) (by simp [go_sem]) ?_
  exact eqFields_cons (by decide) (a := .bool c.ctl) (b := .bool d.ctl) (by kernel_rfl) (by kernel_rfl) (by simp [go_sem]) eqFields_nil
theorem neq_ky (w : World) (c : Ky) : (binOp .neq 27 c.v c.v).run Try.prog w = .ok (.bool false) w := by
  unfold Ky.v
  rw [run_neq_struct]
  have := eqIn_ky 9998 w c c
  unfold Ky.v at this
  rw [this]
  simp
theorem cut_size (n : Nat) (s : ByteArray) : (cutTo n s).size ≤ n := by
  unfold cutTo
  split
  · simp; omega
  · omega
theorem few_in {k : Ky} (h : k.Wide) : k.few.In := ⟨h.c, h.n, by have := cut_size 40 k.s; show (cutTo 40 k.s).size ≤ _; omega⟩
theorem name_len2 (k : Ky) : k.name.length ≤ k.s.size + 30 := by
  unfold Ky.name
  split
  · have h1 : (preL k.alt k.ctl k.shift).length ≤ 14 := by cases k.alt <;> cases k.ctl <;> cases k.shift <;> decide
    have h2 : (codeOf k.code).data.toList.length ≤ 9 := codeOf_size k.code
    have h3 : (tailL k).length ≤ 1 + k.s.size + 2 := by
      have hs : k.s.data.toList.length = k.s.size := rfl
      have hn := numS_len k.n
      unfold tailL
      split
      · split
        · simp only [List.length_cons]; omega
        · simp
      · split
        · omega
        · split
          · omega
          · simp
    simp only [List.length_append]
    omega
  · simp
theorem keyK_in (n : List UInt8) (hn : n.length ≤ 100000) : (keyK n).In := by
  cases h : parse n with
  | none => rw [(key_none h).1]; exact ky_in _ _ _ _ _ _ (by omega) (by omega) (by decide)
  | some k =>
    rw [(key_some h).1]
    unfold parse at h
    split at h
    · cases h; exact cand_in n hn
    · cases h
structure B2 (w : World) (a b : Ky) (wx : World) : Prop where
  a : KyAt wx w.heap.size a
  b : KyAt wx (w.heap.size + 1) b
  bel : Below w.heap.size w wx
theorem b2_at (w : World) (a b : Ky) : B2 w a b ((w.alloc (.cells (kyCells a) 27)).alloc (.cells (kyCells b) 27)) :=
  ⟨(heap_alloc_old _ _ (by simp)).trans (heap_alloc_new _ _), by have := heap_alloc_new (w.alloc (.cells (kyCells a) 27)) (.cells (kyCells b) 27); unfold KyAt; simpa using this, ((Below.refl w.heap.size w).alloc (Nat.le_refl _) _).alloc (by simp) _⟩
theorem B2.kept {w : World} {a b : Ky} {w1 w2 : World} (h : B2 w a b w1) (hb : Below w1.heap.size w1 w2) : B2 w a b w2 :=
  ⟨h.a.kept h.a.get.2.2.2.2.2.2.2 hb, h.b.kept h.b.get.2.2.2.2.2.2.2 hb, h.bel.trans (below_le hb h.bel.size)⟩
theorem B2.setA {w : World} {a b : Ky} {w1 : World} (h : B2 w a b w1) (k : Ky) : B2 w k b ((((((w1.setCell ⟨w.heap.size, 0, none⟩ (.int .i64 k.code)).setCell ⟨w.heap.size, 1, none⟩ (.string k.s)).setCell ⟨w.heap.size, 2, none⟩ (.int .i64 k.n)).setCell ⟨w.heap.size, 3, none⟩ (.bool k.alt)).setCell ⟨w.heap.size, 4, none⟩ (.bool k.shift)).setCell ⟨w.heap.size, 5, none⟩ (.bool k.ctl)) :=
  ⟨h.a.stored k, (set_other (by omega)).trans ((set_other (by omega)).trans ((set_other (by omega)).trans ((set_other (by omega)).trans ((set_other (by omega)).trans ((set_other (by omega)).trans h.b))))), below_stored h.bel (Nat.le_refl _)⟩
theorem B2.setB {w : World} {a b : Ky} {w1 : World} (h : B2 w a b w1) (k : Ky) : B2 w a k ((((((w1.setCell ⟨w.heap.size + 1, 0, none⟩ (.int .i64 k.code)).setCell ⟨w.heap.size + 1, 1, none⟩ (.string k.s)).setCell ⟨w.heap.size + 1, 2, none⟩ (.int .i64 k.n)).setCell ⟨w.heap.size + 1, 3, none⟩ (.bool k.alt)).setCell ⟨w.heap.size + 1, 4, none⟩ (.bool k.shift)).setCell ⟨w.heap.size + 1, 5, none⟩ (.bool k.ctl)) :=
  ⟨(set_other (by omega)).trans ((set_other (by omega)).trans ((set_other (by omega)).trans ((set_other (by omega)).trans ((set_other (by omega)).trans ((set_other (by omega)).trans h.a))))), h.b.stored k, below_stored h.bel (by omega)⟩
theorem wnameRS (k : Ky) (hk : k.In) (w : World) : Calls Try.prog 18 #[k.v] w fun e w' => e = .returned (.string (mkS k.name)) ∧ Below w.heap.size w w' := wnameR k hk w
theorem keep6 {w W W' : World} {a b k : Ky} {g1 g2 : Nat} (h : B2 w a b W) (h1 : KyAt W g1 k) (h2 : KyAt W g2 k) (hB : Below W.heap.size W W') :
    W'.cell? ⟨w.heap.size, 0, none⟩ = some (.int .i64 a.code) ∧ W'.cell? ⟨w.heap.size, 1, none⟩ = some (.string a.s) ∧ W'.cell? ⟨w.heap.size, 2, none⟩ = some (.int .i64 a.n) ∧ W'.cell? ⟨w.heap.size, 3, none⟩ = some (.bool a.alt) ∧ W'.cell? ⟨w.heap.size, 4, none⟩ = some (.bool a.shift) ∧ W'.cell? ⟨w.heap.size, 5, none⟩ = some (.bool a.ctl) ∧ W'.cell? ⟨g1, 0, none⟩ = some (.int .i64 k.code) ∧ W'.cell? ⟨g1, 1, none⟩ = some (.string k.s) ∧ W'.cell? ⟨g1, 2, none⟩ = some (.int .i64 k.n) ∧ W'.cell? ⟨g1, 3, none⟩ = some (.bool k.alt) ∧ W'.cell? ⟨g1, 4, none⟩ = some (.bool k.shift) ∧ W'.cell? ⟨g1, 5, none⟩ = some (.bool k.ctl) ∧ W'.cell? ⟨g2, 0, none⟩ = some (.int .i64 k.code) ∧ W'.cell? ⟨g2, 1, none⟩ = some (.string k.s) ∧ W'.cell? ⟨g2, 2, none⟩ = some (.int .i64 k.n) ∧ W'.cell? ⟨g2, 3, none⟩ = some (.bool k.alt) ∧ W'.cell? ⟨g2, 4, none⟩ = some (.bool k.shift) ∧ W'.cell? ⟨g2, 5, none⟩ = some (.bool k.ctl) := by
  obtain ⟨a0, a1, a2, a3, a4, a5, _, _⟩ := (h.kept hB).a.get
  obtain ⟨b0, b1, b2, b3, b4, b5, _, _⟩ := (h1.kept h1.get.2.2.2.2.2.2.2 hB).get
  obtain ⟨c0, c1, c2, c3, c4, c5, _, _⟩ := (h2.kept h2.get.2.2.2.2.2.2.2 hB).get
  exact ⟨a0, a1, a2, a3, a4, a5, b0, b1, b2, b3, b4, b5, c0, c1, c2, c3, c4, c5⟩
theorem keep13 {w W W' : World} {a b k : Ky} {g : Nat} (h : B2 w a b W) (h1 : KyAt W g k) (hB : Below W.heap.size W W') :
    W'.cell? ⟨w.heap.size, 0, none⟩ = some (.int .i64 a.code) ∧ W'.cell? ⟨w.heap.size, 1, none⟩ = some (.string a.s) ∧ W'.cell? ⟨w.heap.size, 2, none⟩ = some (.int .i64 a.n) ∧ W'.cell? ⟨w.heap.size, 3, none⟩ = some (.bool a.alt) ∧ W'.cell? ⟨w.heap.size, 4, none⟩ = some (.bool a.shift) ∧ W'.cell? ⟨w.heap.size, 5, none⟩ = some (.bool a.ctl) ∧ W'.cell? ⟨w.heap.size + 1, 0, none⟩ = some (.int .i64 b.code) ∧ W'.cell? ⟨w.heap.size + 1, 1, none⟩ = some (.string b.s) ∧ W'.cell? ⟨w.heap.size + 1, 2, none⟩ = some (.int .i64 b.n) ∧ W'.cell? ⟨w.heap.size + 1, 3, none⟩ = some (.bool b.alt) ∧ W'.cell? ⟨w.heap.size + 1, 4, none⟩ = some (.bool b.shift) ∧ W'.cell? ⟨w.heap.size + 1, 5, none⟩ = some (.bool b.ctl) ∧ W'.cell? ⟨g, 0, none⟩ = some (.int .i64 k.code) ∧ W'.cell? ⟨g, 1, none⟩ = some (.string k.s) ∧ W'.cell? ⟨g, 2, none⟩ = some (.int .i64 k.n) ∧ W'.cell? ⟨g, 3, none⟩ = some (.bool k.alt) ∧ W'.cell? ⟨g, 4, none⟩ = some (.bool k.shift) ∧ W'.cell? ⟨g, 5, none⟩ = some (.bool k.ctl) := by
  obtain ⟨a0, a1, a2, a3, a4, a5, _, _⟩ := (h.kept hB).a.get
  obtain ⟨b0, b1, b2, b3, b4, b5, _, _⟩ := (h.kept hB).b.get
  obtain ⟨c0, c1, c2, c3, c4, c5, _, _⟩ := (h1.kept h1.get.2.2.2.2.2.2.2 hB).get
  exact ⟨a0, a1, a2, a3, a4, a5, b0, b1, b2, b3, b4, b5, c0, c1, c2, c3, c4, c5⟩
theorem plain_in {k : Ky} (h : k.In) : k.plain.In := by
  refine ⟨h.c, h.n, ?_⟩
  show (if (k.code = 1 ∧ k.alt = true) ∨ k.code = 17 then k.s else ⟨#[]⟩ : ByteArray).size ≤ _
  split
  · exact h.s
  · decide
theorem name_few_len {k : Ky} (hs : k.s.size ≤ 40) : k.name.length ≤ 100000 := by
  have := name_len2 k
  omega
theorem cutTo_mk (n : Nat) (s : ByteArray) : cutTo n s = mkS (cutTo n s).data.toList := rfl
set_option maxRecDepth 100000 in
set_option maxHeartbeats 8000000 in
theorem names_any (a b : Ky) (s : ByteArray) (ha : a.Wide) (hb : b.Wide) (hs : s.size ≤ maxLen) (w : World) : Calls Try.prog 4 #[a.v, b.v, .string s] w fun e w' => e = .returned (.bool true) ∧ Below w.heap.size w w' := by
  have F1 := Lib.hid (fun W => wfew a ha W)
  have F2 := Lib.hid (fun W => wfew b hb W)
  have FC := Lib.hid (fun W => wcut s hs W)
  have I1 := Lib.hid (few_in ha)
  have I2 := Lib.hid (few_in hb)
  have H0 := Lib.hid (b2_at w a b)
  obtain ⟨A, hA⟩ : ∃ A, A = a.few := ⟨_, rfl⟩
  obtain ⟨B, hB⟩ : ∃ B, B = b.few := ⟨_, rfl⟩
  rw [← hA] at F1 I1
  rw [← hB] at F2 I2
  obtain ⟨S, hS⟩ : ∃ S, S = (cutTo 60 s).data.toList := ⟨_, rfl⟩
  have HSL : Hid (S.length ≤ 60) := by
    rw [hS]
    show Hid ((cutTo 60 s).size ≤ 60)
    refine Lib.hid ?_
    unfold cutTo
    split
    · simp; omega
    · omega
  rw [cutTo_mk, ← hS] at FC
  have HAF : Hid (A.s.size ≤ 40) := by rw [hA]; exact Lib.hid (cut_size 40 _)
  clear ha hb hs hA hB hS
  obtain ⟨ac, at', an, aal, ash, act⟩ := a
  obtain ⟨bc, bs, bn, bal, bsh, bct⟩ := b
  obtain ⟨Ac, As, An, Aal, Ash, Act⟩ := A
  obtain ⟨Bc, Bs, Bn, Bal, Bsh, Bct⟩ := B
  unfold Ky.v at F1 F2 ⊢
  simp only [] at F1 F2 ⊢
  go_enter Try.func4, Try.ntmps4
  go_upto_region 1 with (fail)
  go_cut [] (fun wx => Hid (B2 w ⟨Ac, As, An, Aal, Ash, Act⟩ ⟨bc, bs, bn, bal, bsh, bct⟩ wx))
  case first =>
    go_wp2_with (first | (go_at_call 11; fail))
    go_at_call 11
    refine (F1.out _).mono ?_
    rintro e w1 ⟨rfl, hb1⟩
    have H1 := Lib.hid (H0.out.kept hb1)
    clear hb1 H0
    obtain ⟨c0, c1, c2, c3, c4, c5, cf, cl⟩ := H1.out.a.get
    go_wp2_with (fail)
    go_meet
    exact Lib.hid (H1.out.setA ⟨Ac, As, An, Aal, Ash, Act⟩)
  have H1 := hcut
  clear hcut H0
  go_upto_region 2 with (fail)
  go_cut [] (fun wx => Hid (B2 w ⟨Ac, As, An, Aal, Ash, Act⟩ ⟨Bc, Bs, Bn, Bal, Bsh, Bct⟩ wx))
  case first =>
    obtain ⟨c0, c1, c2, c3, c4, c5, cf, cl⟩ := H1.out.b.get
    go_wp2_with (first | (go_at_call 11; fail))
    go_at_call 11
    refine (F2.out _).mono ?_
    rintro e w1 ⟨rfl, hb1⟩
    have H2 := Lib.hid (H1.out.kept hb1)
    clear hb1 H1 c0 c1 c2 c3 c4 c5 cf cl
    obtain ⟨c0, c1, c2, c3, c4, c5, cf, cl⟩ := H2.out.b.get
    go_wp2_with (fail)
    go_meet
    exact Lib.hid (H2.out.setB ⟨Bc, Bs, Bn, Bal, Bsh, Bct⟩)
  have H2 := hcut
  clear hcut H1 F1 F2
  go_wp2_with (first | (go_at_call 12; fail))
  go_at_call 12
  refine (FC.out _).mono ?_
  rintro e w1 ⟨rfl, rfl⟩
  have HSL' := HSL.out
  have K1 := Lib.hid (fun W => wkey S (by omega) W)
  have K2 := Lib.hid (fun W => wkeyR S (by omega) W)
  have HKI := Lib.hid (keyK_in S (by omega))
  unfold KeyEnd at K1 K2
  obtain ⟨KK, hKK⟩ : ∃ KK, KK = keyK S := ⟨_, rfl⟩
  obtain ⟨E, hE⟩ : ∃ E, E = keyE S := ⟨_, rfl⟩
  rw [← hKK, ← hE] at K1 K2
  rw [← hKK] at HKI
  have HKK := Lib.hid hKK
  have HE := Lib.hid hE
  clear hKK hE HSL'
  obtain ⟨kc, ks, kn, kal, ksh, kct⟩ := KK
  unfold Ky.v at K1 K2
  simp only [] at K1 K2
  go_wp2_with (first | (go_at_call 13; fail))
  go_at_call 13
  refine (K1.out _).mono ?_
  rintro e w2 ⟨rfl, hb⟩
  have H3 := Lib.hid (H2.out.kept hb)
  have hz3 : w.heap.size + 1 < w2.heap.size := H3.out.b.get.2.2.2.2.2.2.2
  clear hb H2 K1 FC
  go_wp2_with (first | (go_at_call 14; fail))
  go_at_call 14
  refine (K2.out _).mono ?_
  rintro e w3 ⟨rfl, hb⟩
  have H4 := Lib.hid ((H3.out.kept ((Below.refl _ _).alloc (Nat.le_refl _) _)).kept hb)
  have HX : Hid (KyAt w3 w2.heap.size ⟨kc, ks, kn, kal, ksh, kct⟩) := (hb.block _ (by simp)).trans (heap_alloc_new _ _)
  clear hb H3 K2
  go_upto_region 6 with (fail)
  have H5 := Lib.hid (H4.out.kept ((Below.refl _ _).alloc (Nat.le_refl _) (.cells #[.int .i64 kc, .string ks, .int .i64 kn, .bool kal, .bool ksh, .bool kct] 27)))
  have HX2 := Lib.hid (HX.out.kept HX.out.get.2.2.2.2.2.2.2 ((Below.refl _ _).alloc (Nat.le_refl _) (.cells #[.int .i64 kc, .string ks, .int .i64 kn, .bool kal, .bool ksh, .bool kct] 27)))
  have HY2 : Hid (KyAt (w3.alloc (.cells #[.int .i64 kc, .string ks, .int .i64 kn, .bool kal, .bool ksh, .bool kct] 27)) w3.heap.size ⟨kc, ks, kn, kal, ksh, kct⟩) := heap_alloc_new _ _
  have hneq := fun W => neq_ky W ⟨kc, ks, kn, kal, ksh, kct⟩
  unfold Ky.v at hneq
  simp only [] at hneq
  have NA := Lib.hid (fun W => wnameS ⟨Ac, As, An, Aal, Ash, Act⟩ I1.out W)
  have NAR := Lib.hid (fun W => wnameRS ⟨Ac, As, An, Aal, Ash, Act⟩ I1.out W)
  have CA := Lib.hid (fun W => wcheck ⟨Ac, As, An, Aal, Ash, Act⟩ I1.out W)
  have CAR := Lib.hid (fun W => wcheckR ⟨Ac, As, An, Aal, Ash, Act⟩ I1.out W)
  unfold Ky.v at NA NAR CA CAR
  simp only [] at NA NAR CA CAR
  obtain ⟨g1, hg1⟩ : ∃ g, g = w2.heap.size := ⟨_, rfl⟩
  obtain ⟨g2, hg2⟩ : ∃ g, g = w3.heap.size := ⟨_, rfl⟩
  obtain ⟨wa, hwa⟩ : ∃ W, W = w3.alloc (.cells #[.int .i64 kc, .string ks, .int .i64 kn, .bool kal, .bool ksh, .bool kct] 27) := ⟨_, rfl⟩
  rw [← hg1] at HX2
  rw [← hg2] at HY2
  rw [← hwa] at H5 HX2 HY2
  rw [← hg1, ← hg2, ← hwa]
  clear hg1 hg2 hwa hz3
  go_cut [54] (fun t wx => t = .bool false ∧ Hid (Below wa.heap.size wa wx))
  case first =>
    have HK := Lib.hid (fun W' => keep6 (W' := W') H5.out HX2.out HY2.out)
    go_region_held3 (fun w' => w'.cell? ⟨w.heap.size, 0, none⟩ = some (.int .i64 Ac) ∧ w'.cell? ⟨w.heap.size, 1, none⟩ = some (.string As) ∧ w'.cell? ⟨w.heap.size, 2, none⟩ = some (.int .i64 An) ∧ w'.cell? ⟨w.heap.size, 3, none⟩ = some (.bool Aal) ∧ w'.cell? ⟨w.heap.size, 4, none⟩ = some (.bool Ash) ∧ w'.cell? ⟨w.heap.size, 5, none⟩ = some (.bool Act) ∧ w'.cell? ⟨g1, 0, none⟩ = some (.int .i64 kc) ∧ w'.cell? ⟨g1, 1, none⟩ = some (.string ks) ∧ w'.cell? ⟨g1, 2, none⟩ = some (.int .i64 kn) ∧ w'.cell? ⟨g1, 3, none⟩ = some (.bool kal) ∧ w'.cell? ⟨g1, 4, none⟩ = some (.bool ksh) ∧ w'.cell? ⟨g1, 5, none⟩ = some (.bool kct) ∧ w'.cell? ⟨g2, 0, none⟩ = some (.int .i64 kc) ∧ w'.cell? ⟨g2, 1, none⟩ = some (.string ks) ∧ w'.cell? ⟨g2, 2, none⟩ = some (.int .i64 kn) ∧ w'.cell? ⟨g2, 3, none⟩ = some (.bool kal) ∧ w'.cell? ⟨g2, 4, none⟩ = some (.bool ksh) ∧ w'.cell? ⟨g2, 5, none⟩ = some (.bool kct))
      (first | exact HK.out _ (Below.refl _ _) | exact HK.out _ (Below.refl _ _).drew | exact HK.out _ HB1.out | exact HK.out _ HB2.out | exact HK.out _ HB3.out | exact HK.out _ HB4.out | exact HK.out _ HB5.out)
      (first | (go_at_call 15; (with_reducible refine (CA.out _).mono ?_); rintro e x1 ⟨rfl, hb1⟩; have HB1 := Lib.hid ((Below.refl wa.heap.size wa).drew.trans hb1); clear hb1) | (go_at_call 16; (with_reducible refine (CAR.out _).mono ?_); rintro e x2 ⟨rfl, hb2⟩; have HB2 := Lib.hid (HB1.out.trans (below_le hb2 HB1.out.size)); clear hb2) | (go_at_call 17; (with_reducible refine (NA.out _).mono ?_); rintro e x3 ⟨rfl, hb3⟩; have HB3 := Lib.hid (HB2.out.trans (below_le hb3 HB2.out.size)); clear hb3) | (go_at_call 18; (with_reducible refine (NAR.out _).mono ?_); rintro e x4 ⟨rfl, hb4⟩; have HB4 := Lib.hid (HB3.out.trans (below_le hb4 HB3.out.size)); clear hb4) | (go_at_call 10; (with_reducible refine (awake_any _).mono ?_); rintro e x5 ⟨rfl, hb5⟩; have HB5 := Lib.hid (HB4.out.trans (below_le hb5 HB4.out.size)); clear hb5))
    go_wp2_with (fail)
    go_meet
    exact ⟨rfl, HB5.out⟩
  obtain ⟨rfl, hBx⟩ := hcut
  have H6 := Lib.hid (H5.out.kept hBx)
  have HX6 := Lib.hid (HX2.out.kept HX2.out.get.2.2.2.2.2.2.2 hBx)
  clear hBx H5 HX2 HY2 hneq CA HX H4
  go_upto_region 8 with (fail)
  go_cut [62] (fun t wx => t = .bool false ∧ Hid (B2 w ⟨Ac, As, An, Aal, Ash, Act⟩ ⟨Bc, Bs, Bn, Bal, Bsh, Bct⟩ wx))
  case first =>
    cases hp : parse S with
    | none =>
      obtain rfl : E = 80 := by rw [HE.out]; exact (key_none hp).2
      clear hp
      go_wp2_with (fail)
      go_meet
      exact ⟨rfl, H6⟩
    | some k =>
      obtain rfl : E = 0 := by rw [HE.out]; exact (key_some hp).2
      have hk : keyK S = k := (key_some hp).1
      have hn : (Ky.mk kc ks kn kal ksh kct).name = S := by
        rw [HKK.out, hk]
        unfold parse at hp
        split at hp
        · rename_i q; cases hp; exact q.1
        · cases hp
      have HN := Lib.hid (fun W => wnameS ⟨kc, ks, kn, kal, ksh, kct⟩ HKI.out W)
      rw [hn] at HN
      obtain ⟨c0, c1, c2, c3, c4, c5, cf, cl⟩ := HX6.out.get
      clear hn hk hp cf cl
      go_wp2_with (first | (go_at_call 17; fail))
      go_at_call 17
      refine (HN.out _).mono ?_
      rintro e x1 ⟨rfl, hb⟩
      have H7 := Lib.hid (H6.out.kept hb)
      clear hb
      go_wp2_with (fail)
      go_meet
      exact ⟨rfl, H7⟩
  obtain ⟨rfl, H7⟩ := hcut
  clear H6 HX6 HE HKK HKI
  obtain ⟨c0, c1, c2, c3, c4, c5, cf, cl⟩ := H7.out.a.get
  cases hok : (Ky.mk Ac As An Aal Ash Act).ok with
  | false =>
    have he : (Ky.mk Ac As An Aal Ash Act).err = 80 := by rw [Ky.err, hok]; rfl
    have hnm : (Ky.mk Ac As An Aal Ash Act).name = [] := by rw [Ky.name, hok]; rfl
    rw [he] at CAR
    rw [hnm] at NA
    have t1 : (mkS []).toList.isEmpty = true := mkS_empty []
    clear hok he hnm cf cl
    go_wp2_with (first | (go_at_call 16; fail))
    go_at_call 16
    refine (CAR.out _).mono ?_
    rintro e x1 ⟨rfl, hb⟩
    have H8 := Lib.hid (H7.out.kept hb)
    clear hb c0 c1 c2 c3 c4 c5
    obtain ⟨c0, c1, c2, c3, c4, c5, cf, cl⟩ := H8.out.a.get
    go_wp2_with (first | (go_at_call 17; fail))
    go_at_call 17
    refine (NA.out _).mono ?_
    rintro e x2 ⟨rfl, hb⟩
    have H9 := Lib.hid (H8.out.kept hb)
    clear hb
    go_wp2_with (fail)
    go_ret
    exact ⟨rfl, H9.out.bel⟩
  | true =>
    have he : (Ky.mk Ac As An Aal Ash Act).err = 0 := by rw [Ky.err, hok]; rfl
    rw [he] at CAR
    have HKN := key_name hok
    have HPN := plain_name hok
    obtain ⟨PS, hPS⟩ : ∃ PS, (Ky.mk Ac As An Aal Ash Act).plain = ⟨Ac, PS, An, Aal, Ash, Act⟩ := ⟨_, rfl⟩
    rw [hPS] at HKN HPN
    have HPI : (Ky.mk Ac PS An Aal Ash Act).In := by rw [← hPS]; exact plain_in I1.out
    have NX := Lib.hid (fun W => wnameS ⟨Ac, PS, An, Aal, Ash, Act⟩ HPI W)
    rw [HPN] at NX
    have KA := Lib.hid (fun W => wkey (Ky.mk Ac As An Aal Ash Act).name (name_few_len HAF.out) W)
    unfold KeyEnd at KA
    rw [HKN.1, HKN.2] at KA
    have NB := Lib.hid (fun W => wnameS ⟨Bc, Bs, Bn, Bal, Bsh, Bct⟩ I2.out W)
    have NBR := Lib.hid (fun W => wnameRS ⟨Bc, Bs, Bn, Bal, Bsh, Bct⟩ I2.out W)
    unfold Ky.v at NX KA NB NBR
    simp only [] at NX KA NB NBR
    obtain ⟨nA, hnA⟩ : ∃ n, n = (Ky.mk Ac As An Aal Ash Act).name := ⟨_, rfl⟩
    obtain ⟨nB, hnB⟩ : ∃ n, n = (Ky.mk Bc Bs Bn Bal Bsh Bct).name := ⟨_, rfl⟩
    rw [← hnA] at NA NAR NX KA
    rw [← hnB] at NB NBR
    clear hok he HKN HPN hPS HPI hnA hnB cf cl
    go_wp2_with (first | (go_at_call 16; fail))
    go_at_call 16
    refine (CAR.out _).mono ?_
    rintro e x1 ⟨rfl, hb⟩
    have H8 := Lib.hid (H7.out.kept hb)
    clear hb c0 c1 c2 c3 c4 c5
    obtain ⟨c0, c1, c2, c3, c4, c5, cf, cl⟩ := H8.out.a.get
    go_wp2_with (first | (go_at_call 17; fail))
    go_at_call 17
    refine (NA.out _).mono ?_
    rintro e x2 ⟨rfl, hb⟩
    have H9 := Lib.hid (H8.out.kept hb)
    clear hb c0 c1 c2 c3 c4 c5 cf cl
    go_wp2_with (first | (go_at_call 13; fail))
    go_at_call 13
    refine (KA.out _).mono ?_
    rintro e x3 ⟨rfl, hb⟩
    have H10 := Lib.hid (H9.out.kept hb)
    clear hb
    go_upto_region 13 with (fail)
    have H11 := Lib.hid (H10.out.kept ((Below.refl _ _).alloc (Nat.le_refl _) (.cells #[.int .i64 Ac, .string PS, .int .i64 An, .bool Aal, .bool Ash, .bool Act] 27)))
    have HZ : Hid (KyAt (x3.alloc (.cells #[.int .i64 Ac, .string PS, .int .i64 An, .bool Aal, .bool Ash, .bool Act] 27)) x3.heap.size ⟨Ac, PS, An, Aal, Ash, Act⟩) := heap_alloc_new _ _
    obtain ⟨g3, hg3⟩ : ∃ g, g = x3.heap.size := ⟨_, rfl⟩
    obtain ⟨wa, hwa⟩ : ∃ W, W = x3.alloc (.cells #[.int .i64 Ac, .string PS, .int .i64 An, .bool Aal, .bool Ash, .bool Act] 27) := ⟨_, rfl⟩
    rw [← hg3] at HZ
    rw [← hwa] at H11 HZ
    rw [← hg3, ← hwa]
    clear hg3 hwa
    have HK := Lib.hid (fun W' => keep13 (W' := W') H11.out HZ.out)
    go_region_held3 (fun w' => w'.cell? ⟨w.heap.size, 0, none⟩ = some (.int .i64 Ac) ∧ w'.cell? ⟨w.heap.size, 1, none⟩ = some (.string As) ∧ w'.cell? ⟨w.heap.size, 2, none⟩ = some (.int .i64 An) ∧ w'.cell? ⟨w.heap.size, 3, none⟩ = some (.bool Aal) ∧ w'.cell? ⟨w.heap.size, 4, none⟩ = some (.bool Ash) ∧ w'.cell? ⟨w.heap.size, 5, none⟩ = some (.bool Act) ∧ w'.cell? ⟨w.heap.size + 1, 0, none⟩ = some (.int .i64 Bc) ∧ w'.cell? ⟨w.heap.size + 1, 1, none⟩ = some (.string Bs) ∧ w'.cell? ⟨w.heap.size + 1, 2, none⟩ = some (.int .i64 Bn) ∧ w'.cell? ⟨w.heap.size + 1, 3, none⟩ = some (.bool Bal) ∧ w'.cell? ⟨w.heap.size + 1, 4, none⟩ = some (.bool Bsh) ∧ w'.cell? ⟨w.heap.size + 1, 5, none⟩ = some (.bool Bct) ∧ w'.cell? ⟨g3, 0, none⟩ = some (.int .i64 Ac) ∧ w'.cell? ⟨g3, 1, none⟩ = some (.string PS) ∧ w'.cell? ⟨g3, 2, none⟩ = some (.int .i64 An) ∧ w'.cell? ⟨g3, 3, none⟩ = some (.bool Aal) ∧ w'.cell? ⟨g3, 4, none⟩ = some (.bool Ash) ∧ w'.cell? ⟨g3, 5, none⟩ = some (.bool Act))
      (first | exact HK.out _ (Below.refl _ _) | exact HK.out _ (Below.refl _ _).drew | exact HK.out _ HB1.out | exact HK.out _ HB2.out | exact HK.out _ HB3.out | exact HK.out _ HB4.out | exact HK.out _ HB5.out | exact HK.out _ HB6.out)
      (first | (go_at_call 18; (with_reducible refine (NBR.out _).mono ?_); rintro e y6 ⟨rfl, hb6⟩; have HB6 := Lib.hid (HB5.out.trans (below_le hb6 HB5.out.size)); clear hb6) | (go_at_call 18; (with_reducible refine (NAR.out _).mono ?_); rintro e y5 ⟨rfl, hb5⟩; have HB5 := Lib.hid (HB4.out.trans (below_le hb5 HB4.out.size)); clear hb5) | (go_at_call 17; (with_reducible refine (NB.out _).mono ?_); rintro e y4 ⟨rfl, hb4⟩; have HB4 := Lib.hid (HB3.out.trans (below_le hb4 HB3.out.size)); clear hb4) | (go_at_call 17; (with_reducible refine (NA.out _).mono ?_); rintro e y3 ⟨rfl, hb3⟩; have HB3 := Lib.hid (HB2.out.trans (below_le hb3 HB2.out.size)); clear hb3) | (go_at_call 17; (with_reducible refine (NA.out _).mono ?_); rintro e y2 ⟨rfl, hb2⟩; have HB2 := Lib.hid (HB1.out.trans (below_le hb2 HB1.out.size)); clear hb2) | (go_at_call 17; (with_reducible refine (NX.out _).mono ?_); rintro e y1 ⟨rfl, hb1⟩; have HB1 := Lib.hid ((Below.refl wa.heap.size wa).drew.trans hb1); clear hb1))
    go_wp2_with (fail)
    go_ret
    exact ⟨rfl, H11.out.bel.trans (below_le HB6.out H11.out.bel.size)⟩
end Go.Proofs.Ythkcfdnenbboaaa
