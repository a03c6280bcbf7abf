/- The law KeymapRuns: its walk. -/
import Derived.Test.YthkcfdnenbboaaaK43
import Derived.Deep.CutBlock
namespace Go.Proofs.Ythkcfdnenbboaaa
open Go.RowKit Go.Shelf Go.Maps Go.Sort Go.ChangeMaps
set_option maxRecDepth 100000 in
set_option maxHeartbeats 16000000 in
theorem runs_any (us : Bool) (x0 : Option Addr) (n0 c0 : Nat) (os : List OpD) (k : Ky) (act : Int) (word : ByteArray) (stop : Int) (w : World) (_hc0 : n0 ≤ c0) (hops : OpsV w x0 n0 os) (hk : k.Wide) (ha : -9223372036854775808 ≤ act ∧ act ≤ 9223372036854775807) (hw : word.size ≤ maxLen) (hs : 0 ≤ stop ∧ stop ≤ 255) :
    Calls Try.prog 5 #[.bool us, .slice x0 n0 c0, k.v, .int .i64 act, .string word, .int .u8 stop] w fun e w' => e = .returned (.bool true) ∧ Below w.heap.size w w' := by
  obtain ⟨st, rfl⟩ : ∃ st : Nat, stop = st := ⟨stop.toNat, by omega⟩
  have HOPS := Lib.hid hops
  have hn0 := hops.2.1
  have HC := Lib.hid (wcut word hw)
  obtain ⟨W1, hW1⟩ : ∃ W1, W1 = cutTo 60 word := ⟨_, rfl⟩
  rw [← hW1] at HC
  have HA1 := Lib.hid (wact W1)
  have HA2 := Lib.hid (wactOf W1)
  obtain ⟨A1, hA1⟩ : ∃ A1, A1 = actOf W1 := ⟨_, rfl⟩
  obtain ⟨B1, hB1⟩ : ∃ B1, B1 = decide (0 ≤ Lib.idxOfS wordsL W1) := ⟨_, rfl⟩
  rw [← hA1, ← hB1] at HA1 HA2
  have HW1 := Lib.hid (wword act ha)
  have HW2 := Lib.hid (wwordR act ha)
  obtain ⟨S1, hS1⟩ : ∃ S1, S1 = wordOf act := ⟨_, rfl⟩
  rw [← hS1] at HW1 HW2
  have HFK := Lib.hid (wfew k hk)
  have HKV := Lib.hid (kv_of k.few (few_in hk))
  obtain ⟨VK, hVK⟩ : ∃ VK, VK = k.few.v := ⟨_, rfl⟩
  obtain ⟨nk, hnk⟩ : ∃ nk, nk = k.few.name := ⟨_, rfl⟩
  rw [← hVK] at HFK HKV
  rw [← hnk] at HKV
  clear hW1 hA1 hB1 hS1 hVK hnk hops hw hk
  obtain ⟨kc, ks, kn, kal, ksh, kct⟩ := k
  unfold Ky.v at HFK ⊢
  simp only [] at HFK ⊢
  go_enter Try.func5, Try.ntmps5
  go_wp2_with (first | (go_at_call 7; fail))
  go_at_call 7
  refine (wnew _).mono ?_
  rintro e w1 ⟨rfl, hM, hB⟩
  have hbk : Below w.heap.size w (w.alloc (.cells #[.int .i64 kc, .string ks, .int .i64 kn, .bool kal, .bool ksh, .bool kct] 27)) := (Below.refl _ _).alloc (Nat.le_refl _) _
  have hsz := hB.size
  simp only [World.size_alloc] at hM hB hsz
  have hbx : Below w1.heap.size w1 (w1.alloc (.cells #[.slice none 0 0] 44)) := (Below.refl _ _).alloc (Nat.le_refl _) _
  have H0 : Hid (Sx w w1.heap.size (w.heap.size + 1 + 1) (w.heap.size + 1) 0 0 noBnd none 0 0 [] ⟨kc, ks, kn, kal, ksh, kct⟩ (w1.alloc (.cells #[.slice none 0 0] 44))) :=
    ⟨hM.below hbx, Boxed.new _ _ _, ⟨rfl, Nat.le_refl _, .inl ⟨rfl, rfl⟩⟩, (hbx.block _ (by omega)).trans ((hB.block _ (by omega)).trans (heap_alloc_new _ _)), (hbk.trans (below_le hB (by omega))).trans (below_le hbx (by omega)), by omega, by omega⟩
  obtain ⟨q, hq⟩ : ∃ q, q = w1.heap.size := ⟨_, rfl⟩
  rw [← hq] at H0
  clear hbk hsz hM hB hbx
  go_upto_if 41 with (fail)
  rw [← hq]
  generalize w1.alloc (.cells #[.slice none 0 0] 44) = w2 at H0 ⊢
  clear hq
  go_cut [13] (fun t wx => ∃ b mb m n f x cap L, t = .pointer (some ⟨b, 0, none⟩) ∧ m ≤ 32 ∧ n ≤ 32 ∧ Hid (Sx w q b mb m n f x n cap L ⟨kc, ks, kn, kal, ksh, kct⟩ wx ∧ Alike L f))
  case first =>
    as_aux_lemma =>
      cases us
      · go_wp2
        go_meet
        exact ⟨_, _, _, _, _, _, _, _, rfl, by omega, by omega, Lib.hid ⟨H0.out, alike_none⟩⟩
      · go_wp2_with (first | (go_at_call 19; fail))
        go_at_call 19
        refine (wusualM _).mono ?_
        rintro e w3 ⟨rfl, hM3, hB3⟩
        have H1 := Lib.hid ((H0.out.kept hB3).newMap hM3 (by have := H0.out.bel.size; have := H0.out.key.get.2.2.2.2.2.2.2; omega))
        clear H0 hM3 hB3
        go_wp2_with (first | (go_at_call 20; fail))
        go_at_call 20
        refine (wUsualR _).mono ?_
        rintro e w4 ⟨x, cap, L, rfl, hr4, ⟨hp4, hz4⟩, hB4⟩
        have H2 := Lib.hid (H1.out.kept hB4)
        have HR4 := Lib.hid hr4
        have HP4 := Lib.hid (show Alike L (usualF 32) from ⟨hp4, good_usual 32 (Nat.le_refl _), hz4⟩)
        have cq := H2.out.rb.cell
        have fq := H2.out.rb.frozen
        clear H1 hr4 hp4 hz4 hB4
        go_wp2
        go_meet
        have hcn : usualC 32 = 32 := by
          have h1 := rep_len HP4.out.rep H2.out.map.map
          have h2 := HR4.out.1
          omega
        have h3 := H2.out.setR HR4.out
        rw [hcn] at h3
        exact ⟨_, _, _, _, _, _, _, _, rfl, by omega, by omega, Lib.hid ⟨h3, HP4.out⟩⟩
  obtain ⟨b, mb, m, n, f, x, cap, L, rfl, hm32, hn32, HS⟩ := hcut
  go_wp2_with (first | (go_at_call 12; fail))
  go_at_call 12
  refine (HC.out _).mono ?_
  rintro e w3 ⟨rfl, rfl⟩
  go_wp2_with (first | (go_at_call 21; fail))
  go_at_call 21
  refine (HA1.out _).mono ?_
  rintro e w4 ⟨rfl, hB4⟩
  go_wp2_with (first | (go_at_call 12; fail))
  go_at_call 12
  refine (HC.out _).mono ?_
  rintro e w5 ⟨rfl, rfl⟩
  go_wp2_with (first | (go_at_call 22; fail))
  go_at_call 22
  refine (HA2.out _).mono ?_
  rintro e w6 ⟨rfl, hB6⟩
  go_wp2_with (first | (go_at_call 23; fail))
  go_at_call 23
  refine (HW1.out _).mono ?_
  rintro e w7 ⟨rfl, hB7⟩
  go_wp2_with (first | (go_at_call 24; fail))
  go_at_call 24
  refine (HW2.out _).mono ?_
  rintro e w8 ⟨rfl, hB8⟩
  go_wp2_with (first | (go_at_call 10; fail))
  go_at_call 10
  refine (awake_any _).mono ?_
  rintro e w9 ⟨rfl, hB9⟩
  have HS9 := Lib.hid (And.intro (((((HS.out.1.kept hB4).kept hB6).kept hB7).kept hB8).kept hB9) HS.out.2)
  clear HS hB4 hB6 hB7 hB8 hB9 HC HA1 HA2 HW1 HW2
  go_wp2_with (fail)
  obtain ⟨N, hN⟩ : ∃ N, N = min n0 40 := ⟨_, rfl⟩
  have HN := Lib.hid hN
  clear hN
  go_loopg [13, 19] N (fun gh t13 i wr => ∃ j b mb m n f x cap L, j + gh = N ∧ i = .int .i64 (j : Nat) ∧ t13 = .pointer (some ⟨b, 0, none⟩) ∧ m ≤ 32 + j ∧ n ≤ 32 + j ∧ Hid (Sx w q b mb m n f x n cap L ⟨kc, ks, kn, kal, ksh, kct⟩ wr ∧ Alike L f))
  case atStart => exact ⟨0, b, mb, m, n, f, x, cap, L, by omega, rfl, rfl, by omega, by omega, HS9⟩
  case round =>
    as_aux_lemma =>
      clear HS9 hm32 hn32
      obtain ⟨j, b, mb, m, n, f, x, cap, L, hj, rfl, rfl, hm, hn, HS⟩ := hrel
      by_cases hlt : j < N
      · have hlt0 : j < n0 := by have := HN.out; omega
        have h40 : j < 40 := by have := HN.out; omega
        have hj40 : j ≤ 40 := by omega
        obtain ⟨b0, off, rfl, hb0, hcs⟩ := HOPS.out.2.2.2 (by omega)
        have hok := HOPS.out.2.2.1 j hlt0
        have hcj := hcs j hlt0
        obtain ⟨o, ho⟩ : ∃ o, o = os.getD j opz := ⟨_, rfl⟩
        rw [← ho] at hok hcj
        clear ho hcs
        have HFO := Lib.hid (wfew o.k hok.k)
        have HKO := Lib.hid (kv_of o.k.few (few_in hok.k))
        obtain ⟨V, hV⟩ : ∃ V, V = o.k.few.v := ⟨_, rfl⟩
        obtain ⟨nm, hnm⟩ : ∃ nm, nm = o.k.few.name := ⟨_, rfl⟩
        rw [← hV] at HFO HKO
        rw [← hnm] at HKO
        have hd := hok.d
        have HAA := Lib.hid hok.a
        clear hV hnm hok
        obtain ⟨d, ⟨pc, ps, pn, pal, psh, pct⟩, a⟩ := o
        unfold Ky.v at HFO
        simp only [] at HFO HAA hd
        have hcw := fun t (ht : t < 8) => (HS.out.1.bel.cell (p := ⟨b0, off + j * 8 + t, none⟩) hb0).trans (hcj t ht)
        have p0 : wr.cell? ⟨b0, off + j * 8, none⟩ = some (.int .u8 d) := hcw 0 (by omega)
        have p1 : wr.cell? ⟨b0, off + j * 8 + 1, none⟩ = some (.int .i64 pc) := hcw 1 (by omega)
        have p2 : wr.cell? ⟨b0, off + j * 8 + 2, none⟩ = some (.string ps) := hcw 2 (by omega)
        have p3 : wr.cell? ⟨b0, off + j * 8 + 3, none⟩ = some (.int .i64 pn) := hcw 3 (by omega)
        have p4 : wr.cell? ⟨b0, off + j * 8 + 4, none⟩ = some (.bool pal) := hcw 4 (by omega)
        have p5 : wr.cell? ⟨b0, off + j * 8 + 5, none⟩ = some (.bool psh) := hcw 5 (by omega)
        have p6 : wr.cell? ⟨b0, off + j * 8 + 6, none⟩ = some (.bool pct) := hcw 6 (by omega)
        have p7 : wr.cell? ⟨b0, off + j * 8 + 7, none⟩ = some (.int .i64 a) := hcw 7 (by omega)
        clear hcw hcj
        go_upto_region 13 with (fail)
        go_cut [20] (fun t wx => ∃ p, t = .pointer (some ⟨p, 0, none⟩) ∧ Hid (Sy w q b mb m n f x n cap L ⟨kc, ks, kn, kal, ksh, kct⟩ p ⟨d, ⟨pc, ps, pn, pal, psh, pct⟩, a⟩ wx))
        case first =>
          go_wp2
          go_meet
          exact ⟨_, rfl, Lib.hid ⟨HS.out.1.kept ((Below.refl _ _).alloc (Nat.le_refl _) _), heap_alloc_new _ _⟩⟩
        obtain ⟨p, rfl, HY⟩ := hcut
        have HAL := Lib.hid HS.out.2
        clear HS p0 p1 p2 p3 p4 p5 p6 p7
        have c0 := HY.out.op.get.1
        rename World => wa
        obtain ⟨_, c1, c2, c3, c4, c5, c6, c7, _⟩ := HY.out.op.get
        simp only [] at c0 c1 c2 c3 c4 c5 c6 c7
        go_upto_block 2 with (fail)
        obtain ⟨r, hr⟩ : ∃ r, r = d % 6 := ⟨_, rfl⟩
        rw [← hr]
        clear hr
        go_cut [13, 20] (fun t13 t20 wx => ∃ b mb m n f x cap L, t20 = .pointer (some ⟨p, 0, none⟩) ∧ t13 = .pointer (some ⟨b, 0, none⟩) ∧ m ≤ 33 + j ∧ n ≤ 33 + j ∧ Hid (Sy w q b mb m n f x n cap L ⟨kc, ks, kn, kal, ksh, kct⟩ p ⟨d, ⟨pc, ps, pn, pal, psh, pct⟩, a⟩ wx ∧ Alike L f))
        case first =>
          as_aux_lemma =>
            by_cases h4 : r = 4
            · as_aux_lemma =>
                obtain rfl := h4
                go_wp2_with (first | (go_at_call 11; fail))
                go_at_call 11
                refine (HFO.out _).mono ?_
                rintro e w5 ⟨rfl, hb5⟩
                have H5 := Lib.hid (HY.out.kept hb5)
                clear hb5 c0 c1 c2 c3 c4 c5 c6 c7
                go_wp2_with (first | (go_at_call 25; fail))
                go_at_call 25
                refine (HKO.out.drop _ _ _ _ _ _ H5.out.sx.map).mono ?_
                rintro e w6 ⟨rfl, hM6, hB6⟩
                have HQ := Lib.hid (H5.out.turned hM6 hB6)
                clear H5 hM6 hB6
                have HDR := Lib.hid (fun W' (hb : Below w6.heap.size w6 W') => HKO.out.dropR W' x n cap L ((HQ.out.kept hb).sx.row) HAL.out.sz (by omega))
                unfold DropEnd at HDR
                rw [(HAL.out.at nm).1]
                obtain ⟨E, hE⟩ : ∃ E, E = dropOk L nm := ⟨_, rfl⟩
                rw [← hE] at HDR ⊢
                clear hE
                go_upto_region 22 with (fail)
                go_cut [22, 23] (fun ta tb wx => ∃ g x' n' cap', ta = .pointer (some ⟨g, 0, none⟩) ∧ tb = .bool E ∧ Hid (Slot w6 g x' n' cap' (dropL L nm) wx))
                case first =>
                  as_aux_lemma =>
                    have HRD := Lib.hid (fun W' (hb : Below w6.heap.size w6 W') => HQ.out.reads W' hb)
                    simp only [] at HRD
                    go_region_held3 (fun w' => Below w6.heap.size w6 w' ∧ w'.cell? ⟨q, 0, none⟩ = some (.slice x n cap) ∧ w'.cell? ⟨p, 1, none⟩ = some (.int .i64 pc) ∧ w'.cell? ⟨p, 2, none⟩ = some (.string ps) ∧ w'.cell? ⟨p, 3, none⟩ = some (.int .i64 pn) ∧ w'.cell? ⟨p, 4, none⟩ = some (.bool pal) ∧ w'.cell? ⟨p, 5, none⟩ = some (.bool psh) ∧ w'.cell? ⟨p, 6, none⟩ = some (.bool pct) ∧ w'.cell? ⟨p, 7, none⟩ = some (.int .i64 a))
                      (first | exact HRD.out _ (Below.refl _ _).drew | exact HRD.out _ HGB.out | exact HRD.out _ HGA.out | exact HRD.out _ (keepA HGB.out rfl) | exact HRD.out _ (keepA HGA.out rfl) | exact HRD.out _ (keepA (Below.refl _ _).drew rfl) | exact HRD.out _ (keepS HGB.out gs1) | exact HRD.out _ (keepS HGB.out (by simp)))
                      (first | (go_at_call 26; go_split_ands; (with_reducible refine (HDR.out _ (by assumption)).mono ?_); rintro e y2 ⟨x', n', cap', rfl, hr2, gh2⟩; have HR2 := Lib.hid hr2; have HGB := Lib.hid (keepG (by assumption) rfl gh2 : Below w6.heap.size w6 y2); have gs2 := HGB.out.size; clear hr2; (try (have bx2 := boxed_kept (Boxed.new _ 44 (.slice none 0 0)) gh2; have bc2 := bx2.cell; have bf2 := bx2.frozen)); (try (have bx2 := boxed_kept HX1.out gh2; have bc2 := bx2.cell; have bf2 := bx2.frozen))) | (go_at_call 11; (with_reducible refine (HFO.out _).mono ?_); rintro e y1 ⟨rfl, gh1⟩; go_split_ands; have HGA := Lib.hid (keepG (by assumption) rfl gh1 : Below w6.heap.size w6 y1); have gs1 := HGA.out.size; (try (have HX1 := Lib.hid (boxed_kept (boxed_drew _ 44 (.slice none 0 0)) gh1)))))
                    all_goals
                      go_wp2_with (fail)
                      go_meet
                      first
                        | exact ⟨_, _, _, _, rfl, rfl, Lib.hid (slot_new HR2.out HGB.out)⟩
                        | exact ⟨_, _, _, _, rfl, rfl, Lib.hid (slot_at bx2 (fun s e => by cases e) HR2.out HGB.out (by first | exact gs1 | exact Nat.le_refl _ | (simp; done)))⟩
                obtain ⟨g, x', n', cap', rfl, rfl, HSL⟩ := hcut
                have H7 := Lib.hid (HQ.out.kept HSL.out.2.2)
                have cg := HSL.out.1.cell
                have cq := H7.out.sx.rb.cell
                have fq := H7.out.sx.rb.frozen
                clear HQ
                go_wp2
                go_meet
                have h9 := HAL.out.drop nm
                have h8 := H7.out.setR HSL.out.2.1
                have hcn : dropC f n nm = n' := by
                  have h1 := rep_len h9.rep h8.sx.map.map
                  have h2 := HSL.out.2.1.1
                  omega
                have hle : dropC f n nm ≤ n := by unfold dropC; split <;> omega
                rw [hcn] at h8
                exact ⟨_, _, _, _, _, _, _, _, rfl, rfl, by omega, by omega, Lib.hid ⟨h8, h9⟩⟩
            · as_aux_lemma =>
                by_cases h5 : r = 5
                · as_aux_lemma =>
                    obtain rfl := h5
                    clear h4
                    go_wp2_with (first | (go_at_call 27; fail))
                    go_at_call 27
                    have hmw := HY.out.sx.map.get.2.2.1
                    have hsw := HY.out.sx.low
                    refine (wfork HY.out.sx.map (by omega)).mono ?_
                    rintro e w5 ⟨rfl, hM5, hb5⟩
                    have H5 := Lib.hid (HY.out.kept hb5)
                    have HM5 := Lib.hid hM5
                    clear hb5 hM5 c0 c1 c2 c3 c4 c5 c6 c7
                    go_wp2_with (first | (go_at_call 8; fail))
                    go_at_call 8
                    refine ((kv_of ⟨2, ⟨#[]⟩, 0, false, false, false⟩ (ky_in _ _ _ _ _ _ (by omega) (by omega) (by decide))).bind _ _ _ _ _ _ 17 H5.out.sx.map (by omega) (by omega)).mono ?_
                    rintro e w6 ⟨rfl, hM6, hB6⟩
                    have HQ := Lib.hid (H5.out.forked HM5.out hM6 hB6 (by omega) (by omega))
                    clear H5 hM6 hB6
                    go_wp2
                    go_meet
                    exact ⟨_, _, _, _, _, _, _, _, rfl, rfl, by omega, by omega, Lib.hid ⟨HQ.out, HAL.out⟩⟩
                · as_aux_lemma =>
                    have b4 : (r == 4) = false := by simp [h4]
                    have b5 : (r == 5) = false := by simp [h5]
                    have hbe : bindE f n nm a = refE L nm a := by
                      have h1 := HAL.out.bindE nm a
                      rwa [← HY.out.sx.row.1] at h1
                    obtain ⟨E, hE⟩ : ∃ E, E = refE L nm a := ⟨_, rfl⟩
                    rw [← hE] at hbe
                    have HBE := Lib.hid hbe
                    have HE := Lib.hid hE
                    clear hbe hE
                    go_upto_region 15 with (fail)
                    go_cut [25] (fun t wx => t = .int .i64 E ∧ Hid (MapI wx b mb (m + 1) (bindC f n nm a) (bindF f n nm a) ∧ But [mb] wa wx))
                    case first =>
                      as_aux_lemma =>
                        have HRD := Lib.hid (fun W' (hb : But [mb] wa W') => HY.out.readsB W' hb)
                        simp only [] at HRD
                        go_region_held3 (fun w' => But [mb] wa w' ∧ w'.cell? ⟨q, 0, none⟩ = some (.slice x n cap) ∧ w'.cell? ⟨p, 1, none⟩ = some (.int .i64 pc) ∧ w'.cell? ⟨p, 2, none⟩ = some (.string ps) ∧ w'.cell? ⟨p, 3, none⟩ = some (.int .i64 pn) ∧ w'.cell? ⟨p, 4, none⟩ = some (.bool pal) ∧ w'.cell? ⟨p, 5, none⟩ = some (.bool psh) ∧ w'.cell? ⟨p, 6, none⟩ = some (.bool pct) ∧ w'.cell? ⟨p, 7, none⟩ = some (.int .i64 a))
                          (first | exact HRD.out _ (But.refl _ _).drew | exact HRD.out _ (But.of GB1.out) | exact HRD.out _ ((But.of GB1.out).trans HB2.out))
                          (first | (go_at_call 8; (with_reducible refine (HKO.out.bind _ _ _ _ _ _ _ HY1.out.sx.map (by omega) HAA.out).mono ?_); rintro e y2 ⟨rfl, hM2, hB2⟩; have HM2 := Lib.hid hM2; have HB2 := Lib.hid hB2; clear hM2 hB2) | (go_at_call 11; (with_reducible refine (HFO.out _).mono ?_); rintro e y1 ⟨rfl, gh1⟩; have GB1 := Lib.hid ((Below.refl wa.heap.size wa).drew.trans (below_le gh1 (by simp))); have HY1 := Lib.hid (HY.out.kept GB1.out); clear gh1))
                        go_wp2_with (fail)
                        go_meet
                        exact ⟨by rw [HBE.out], Lib.hid ⟨HM2.out, (But.of GB1.out).trans HB2.out⟩⟩
                    rename World => wd
                    obtain ⟨rfl, HBD⟩ := hcut
                    have HQ := Lib.hid (HY.out.turned HBD.out.1 HBD.out.2)
                    clear HBD c0 c1 c2 c3 c4 c5 c6 c7
                    have HDR := Lib.hid (fun W' (hb : Below wd.heap.size wd W') => HKO.out.bindR W' x n cap L a ((HQ.out.kept hb).sx.row) HAL.out.sz (by omega) HAA.out)
                    unfold RefEnd at HDR
                    rw [← HE.out] at HDR
                    go_upto_region 16 with (fail)
                    go_cut [26, 27] (fun ta tb wx => ∃ g x' n' cap', ta = .pointer (some ⟨g, 0, none⟩) ∧ tb = .int .i64 E ∧ Hid (Slot wd g x' n' cap' (refL L nm a) wx))
                    case first =>
                      as_aux_lemma =>
                        have HRD := Lib.hid (fun W' (hb : Below wd.heap.size wd W') => HQ.out.reads W' hb)
                        simp only [] at HRD
                        go_region_held3 (fun w' => Below wd.heap.size wd w' ∧ w'.cell? ⟨q, 0, none⟩ = some (.slice x n cap) ∧ w'.cell? ⟨p, 1, none⟩ = some (.int .i64 pc) ∧ w'.cell? ⟨p, 2, none⟩ = some (.string ps) ∧ w'.cell? ⟨p, 3, none⟩ = some (.int .i64 pn) ∧ w'.cell? ⟨p, 4, none⟩ = some (.bool pal) ∧ w'.cell? ⟨p, 5, none⟩ = some (.bool psh) ∧ w'.cell? ⟨p, 6, none⟩ = some (.bool pct) ∧ w'.cell? ⟨p, 7, none⟩ = some (.int .i64 a))
                          (first | exact HRD.out _ (Below.refl _ _).drew | exact HRD.out _ HGB.out | exact HRD.out _ HGA.out | exact HRD.out _ (keepA HGB.out rfl) | exact HRD.out _ (keepA HGA.out rfl) | exact HRD.out _ (keepA (Below.refl _ _).drew rfl) | exact HRD.out _ (keepS HGB.out gs1) | exact HRD.out _ (keepS HGB.out (by simp)))
                          (first | (go_at_call 28; go_split_ands; (with_reducible refine (HDR.out _ (by assumption)).mono ?_); rintro e y2 ⟨x', n', cap', rfl, hr2, gh2⟩; have HR2 := Lib.hid hr2; have HGB := Lib.hid (keepG (by assumption) rfl gh2 : Below wd.heap.size wd y2); have gs2 := HGB.out.size; clear hr2; (try (have bx2 := boxed_kept (Boxed.new _ 44 (.slice none 0 0)) gh2; have bc2 := bx2.cell; have bf2 := bx2.frozen)); (try (have bx2 := boxed_kept HX1.out gh2; have bc2 := bx2.cell; have bf2 := bx2.frozen))) | (go_at_call 11; (with_reducible refine (HFO.out _).mono ?_); rintro e y1 ⟨rfl, gh1⟩; go_split_ands; have HGA := Lib.hid (keepG (by assumption) rfl gh1 : Below wd.heap.size wd y1); have gs1 := HGA.out.size; (try (have HX1 := Lib.hid (boxed_kept (boxed_drew _ 44 (.slice none 0 0)) gh1)))))
                        all_goals
                          go_wp2_with (fail)
                          go_meet
                          first
                            | exact ⟨_, _, _, _, rfl, rfl, Lib.hid (slot_new HR2.out HGB.out)⟩
                            | exact ⟨_, _, _, _, rfl, rfl, Lib.hid (slot_at bx2 (fun s e => by cases e) HR2.out HGB.out (by first | exact gs1 | exact Nat.le_refl _ | (simp; done)))⟩
                    obtain ⟨g, x', n', cap', rfl, rfl, HSL⟩ := hcut
                    have H7 := Lib.hid (HQ.out.kept HSL.out.2.2)
                    have cg := HSL.out.1.cell
                    have cq := H7.out.sx.rb.cell
                    have fq := H7.out.sx.rb.frozen
                    clear HQ
                    go_wp2
                    go_meet
                    have h9 := HAL.out.bind nm HKO.out.sz a
                    rw [← HY.out.sx.row.1] at h9
                    have h8 := H7.out.setR HSL.out.2.1
                    have hcn : bindC f n nm a = n' := by
                      have h1 := rep_len h9.rep h8.sx.map.map
                      have h2 := HSL.out.2.1.1
                      omega
                    have hle : bindC f n nm a ≤ n + 1 := by unfold bindC; split <;> omega
                    rw [hcn] at h8
                    exact ⟨_, _, _, _, _, _, _, _, rfl, rfl, by omega, by omega, Lib.hid ⟨h8, h9⟩⟩
        clear hm hn HY HAL
        obtain ⟨b, mb, m, n, f, x, cap, L, rfl, rfl, hm, hn, HZ⟩ := hcut
        have HY := Lib.hid HZ.out.1
        have HAL := Lib.hid HZ.out.2
        clear HZ c0 c1 c2 c3 c4 c5 c6 c7
        obtain ⟨_, c1, c2, c3, c4, c5, c6, c7, _⟩ := HY.out.op.get
        simp only [] at c1 c2 c3 c4 c5 c6 c7
        go_wp2_with (first | (go_at_call 11; fail))
        go_at_call 11
        refine (HFO.out _).mono ?_
        rintro e w5 ⟨rfl, hb5⟩
        have H5 := Lib.hid (HY.out.kept hb5)
        clear hb5 c1 c2 c3 c4 c5 c6 c7 HY
        go_wp2_with (first | (go_at_call 29; fail))
        go_at_call 29
        refine (HKO.out.act _ _ _ _ _ _ H5.out.sx.map).mono ?_
        rintro e w6 ⟨rfl, hb6⟩
        have H6 := Lib.hid (H5.out.kept hb6)
        clear hb6 H5
        rw [(HAL.out.at nm).1, (HAL.out.at nm).2]
        have HDR := Lib.hid (fun W' (hb : Below w6.heap.size w6 W') => HKO.out.actR W' x n cap L ((H6.out.kept hb).sx.row) HAL.out.sz (by omega))
        obtain ⟨E, hE⟩ : ∃ E, E = dropOk L nm := ⟨_, rfl⟩
        obtain ⟨A, hA⟩ : ∃ A, A = actR L nm := ⟨_, rfl⟩
        rw [← hE, ← hA] at HDR
        rw [← hE, ← hA]
        clear hE hA
        go_upto_region 33 with (fail)
        go_cut [30, 31] (fun ta tb wx => ta = .int .i64 A ∧ tb = .bool E ∧ Hid (Below w6.heap.size w6 wx))
        case first =>
          as_aux_lemma =>
            have HRD := Lib.hid (fun W' (hb : Below w6.heap.size w6 W') => H6.out.reads W' hb)
            simp only [] at HRD
            go_region_held3 (fun w' => Below w6.heap.size w6 w' ∧ w'.cell? ⟨q, 0, none⟩ = some (.slice x n cap) ∧ w'.cell? ⟨p, 1, none⟩ = some (.int .i64 pc) ∧ w'.cell? ⟨p, 2, none⟩ = some (.string ps) ∧ w'.cell? ⟨p, 3, none⟩ = some (.int .i64 pn) ∧ w'.cell? ⟨p, 4, none⟩ = some (.bool pal) ∧ w'.cell? ⟨p, 5, none⟩ = some (.bool psh) ∧ w'.cell? ⟨p, 6, none⟩ = some (.bool pct) ∧ w'.cell? ⟨p, 7, none⟩ = some (.int .i64 a))
              (first | exact HRD.out _ (Below.refl _ _).drew | exact HRD.out _ HGB.out | exact HRD.out _ HGA.out)
              (first | (go_at_call 30; go_split_ands; (with_reducible refine (HDR.out _ (by assumption)).mono ?_); rintro e y2 ⟨rfl, gh2⟩; have HGB := Lib.hid (keepG (by assumption) rfl gh2 : Below w6.heap.size w6 y2)) | (go_at_call 11; (with_reducible refine (HFO.out _).mono ?_); rintro e y1 ⟨rfl, gh1⟩; go_split_ands; have HGA := Lib.hid (keepG (by assumption) rfl gh1 : Below w6.heap.size w6 y1)))
            go_wp2_with (fail)
            go_meet
            exact ⟨rfl, rfl, HGB⟩
        obtain ⟨rfl, rfl, HBW⟩ := hcut
        have H7 := Lib.hid (H6.out.kept HBW.out)
        clear HBW HDR H6
        rename World => wz
        go_upto_region 34 with (fail)
        go_cut [177] (fun t wx => t = .bool false ∧ Hid (Below wz.heap.size wz wx))
        case first =>
          as_aux_lemma =>
            have HRD := Lib.hid (fun W' (hb : Below wz.heap.size wz W') => And.intro hb (H7.out.kept hb).sx.rb.cell)
            go_region_held3 (fun w' => Below wz.heap.size wz w' ∧ w'.cell? ⟨q, 0, none⟩ = some (.slice x n cap))
              (first | exact HRD.out _ (Below.refl _ _).drew)
              ((go_at_call 9; refine (wlen (H7.out.kept (Below.refl _ _).drew).sx.map).mono ?_; rintro e y ⟨rfl, rfl⟩))
            go_wp2_with (fail)
            go_meet
            exact ⟨rfl, Lib.hid (Below.refl _ _).drew⟩
        obtain ⟨rfl, HB8⟩ := hcut
        go_wp2
        go_roundg (gk - 1)
        case measure => omega
        case rel => exact ⟨j + 1, _, _, _, _, _, _, _, _, by omega, by go_num, rfl, by omega, by omega, Lib.hid ⟨(H7.out.kept HB8.out).sx, HAL.out⟩⟩
      · go_upto_region 11 with (fail)
        go_cut [86] (fun t wx => t = .bool false ∧ wr = wx)
        case first =>
          as_aux_lemma =>
            have hnn := HN.out
            by_cases h0 : j < n0
            · have h40 : ¬ j < 40 := by omega
              clear hnn
              go_wp2_with (fail)
              go_meet
              exact ⟨congrArg Value.bool (decide_eq_false (by omega)), rfl⟩
            · clear hnn
              go_wp2_with (fail)
              go_meet
              exact ⟨rfl, rfl⟩
        obtain ⟨rfl, rfl⟩ := hcut
        have HX := Lib.hid HS.out.1
        have HAL := Lib.hid HS.out.2
        have hn72 : n ≤ 72 := by have := HN.out; omega
        have hm72 : m ≤ 72 := by have := HN.out; omega
        clear HS hm hn hlt hj
        obtain ⟨c0, c1, c2, c3, c4, c5, _, _⟩ := HX.out.key.get
        simp only [] at c0 c1 c2 c3 c4 c5
        go_wp2_with (first | (go_at_call 11; fail))
        go_at_call 11
        refine (HFK.out _).mono ?_
        rintro e w5 ⟨rfl, hb5⟩
        have H5 := Lib.hid (HX.out.kept hb5)
        clear hb5 c0 c1 c2 c3 c4 c5 HX
        go_wp2_with (first | (go_at_call 29; fail))
        go_at_call 29
        refine (HKV.out.act _ _ _ _ _ _ H5.out.map).mono ?_
        rintro e w6 ⟨rfl, hb6⟩
        have H6 := Lib.hid (H5.out.kept hb6)
        clear hb6 H5
        rw [(HAL.out.at nk).1, (HAL.out.at nk).2]
        have HDR := Lib.hid (fun W' (hb : Below w6.heap.size w6 W') => HKV.out.actR W' x n cap L ((H6.out.kept hb).row) HAL.out.sz (by omega))
        obtain ⟨E, hE⟩ : ∃ E, E = dropOk L nk := ⟨_, rfl⟩
        obtain ⟨A, hA⟩ : ∃ A, A = actR L nk := ⟨_, rfl⟩
        rw [← hE, ← hA] at HDR
        rw [← hE, ← hA]
        clear hE hA
        go_upto_region 37 with (fail)
        go_cut [34, 35] (fun ta tb wx => ta = .int .i64 A ∧ tb = .bool E ∧ Hid (Below w6.heap.size w6 wx))
        case first =>
          as_aux_lemma =>
            have HRD := Lib.hid (fun W' (hb : Below w6.heap.size w6 W') => H6.out.reads W' hb)
            simp only [] at HRD
            go_region_held3 (fun w' => Below w6.heap.size w6 w' ∧ w'.cell? ⟨q, 0, none⟩ = some (.slice x n cap) ∧ w'.cell? ⟨w.heap.size, 0, none⟩ = some (.int .i64 kc) ∧ w'.cell? ⟨w.heap.size, 1, none⟩ = some (.string ks) ∧ w'.cell? ⟨w.heap.size, 2, none⟩ = some (.int .i64 kn) ∧ w'.cell? ⟨w.heap.size, 3, none⟩ = some (.bool kal) ∧ w'.cell? ⟨w.heap.size, 4, none⟩ = some (.bool ksh) ∧ w'.cell? ⟨w.heap.size, 5, none⟩ = some (.bool kct))
              (first | exact HRD.out _ (Below.refl _ _).drew | exact HRD.out _ HGB.out | exact HRD.out _ HGA.out)
              (first | (go_at_call 30; go_split_ands; (with_reducible refine (HDR.out _ (by assumption)).mono ?_); rintro e y2 ⟨rfl, gh2⟩; have HGB := Lib.hid (keepG (by assumption) rfl gh2 : Below w6.heap.size w6 y2)) | (go_at_call 11; (with_reducible refine (HFK.out _).mono ?_); rintro e y1 ⟨rfl, gh1⟩; go_split_ands; have HGA := Lib.hid (keepG (by assumption) rfl gh1 : Below w6.heap.size w6 y1)))
            go_wp2_with (fail)
            go_meet
            exact ⟨rfl, rfl, HGB⟩
        obtain ⟨rfl, rfl, HBW⟩ := hcut
        have H7 := Lib.hid (H6.out.kept HBW.out)
        clear HBW HDR H6
        rename World => wz
        obtain ⟨ss, hns, hL⟩ := HAL.out.rep
        have hln : ss.length = n := by rw [H7.out.row.1, hL]; simp [entL]
        have HNS := Lib.hid hns
        have HL := Lib.hid hL
        have HLN := Lib.hid hln
        have ht1 := told_yes H7.out.map (by omega) hns 1000 (by omega)
        rw [show min ss.length 1000 = n by omega] at ht1
        unfold ToldEnd at ht1
        have HT1 := Lib.hid ht1
        clear hns hL hln ht1
        go_wp2_with (first | (go_at_call 31; fail))
        go_at_call 31
        refine HT1.out.mono ?_
        rintro e w8 ⟨x1, cap1, rfl, hc1, hs1, hb8⟩
        have HS1 := Lib.hid hs1
        have HC1 := Lib.hid hc1
        have H8 := Lib.hid (H7.out.kept hb8)
        clear hs1 hc1 hb8 HT1 H7
        obtain ⟨M, hM⟩ : ∃ M, M = min n st := ⟨_, rfl⟩
        have hMn : M ≤ n := by omega
        have hmin : min (n : Int) (st : Int) = (M : Int) := by omega
        have ht2 := told_yes H8.out.map (by omega) HNS.out st (by omega)
        rw [show min ss.length st = M by rw [hM, HLN.out]] at ht2
        unfold ToldEnd at ht2
        have HT2 := Lib.hid ht2
        clear ht2 hM
        go_wp2_with (first | (go_at_call 31; fail))
        go_at_call 31
        refine HT2.out.mono ?_
        rintro e w9 ⟨x2, cap2, rfl, hc2, hs2, hb9⟩
        have HS2 := Lib.hid hs2
        have HC2 := Lib.hid hc2
        have HS1' := Lib.hid (HS1.out.below hb9)
        have H9 := Lib.hid (H8.out.kept hb9)
        clear hs2 hc2 hb9 HT2 H8 HS1
        have HRD := Lib.hid (fun W' (hb : Below w9.heap.size w9 W') => And.intro hb (H9.out.kept hb).rb.cell)
        have HW1 := Lib.hid (fun W' (hb : Below w9.heap.size w9 W') => wsameB HL.out (HS1'.out.below hb) HC1.out (H9.out.kept hb).row.whole (by have := HLN.out; omega) (by omega))
        have HW2 := Lib.hid (fun W' (hb : Below w9.heap.size w9 W') => wsameB HL.out (HS2.out.below hb) HC2.out ((H9.out.kept hb).row.pre hMn) (by have := HLN.out; omega) (by omega))
        have HK1 := Lib.hid (fun W' (hb : Below w9.heap.size w9 W') => keysY (H9.out.kept hb).map (by omega) HNS.out HL.out act)
        have HK2 := Lib.hid (fun W' (hb : Below w9.heap.size w9 W') => keysZ (H9.out.kept hb).row (by omega) act)
        obtain ⟨l, hl⟩ : ∃ l, l = keysB L act := ⟨_, rfl⟩
        obtain ⟨z, hz⟩ : ∃ z, z = l.length := ⟨_, rfl⟩
        have hzl : z ≤ 100000 := by
          have h1 := keysB_len L act
          rw [← hl, ← hz] at h1
          have h2 := H9.out.row.1
          omega
        rw [← hl, ← hz] at HK1 HK2
        have hnc := H9.out.row.2.1
        have HROW := H9.out.row.2.2
        clear hl hz
        rcases HROW with ⟨rfl, rfl⟩ | ⟨g, rfl, _, _⟩
        · have hn00 : n = 0 := by omega
          subst hn00
          have hm00 : M = 0 := by omega
          subst hm00
          clear hmin
          have hwr : IntKind.i64.wrap (st : Int) = (st : Int) := IntWalk.i64_in _ (by omega)
          have hmin0 : min (0 : Int) (st : Int) = 0 := by omega
          go_upto_region 40 with (fail)
          go_region_held3 (fun w' => Below w9.heap.size w9 w' ∧ w'.cell? ⟨q, 0, none⟩ = some (.slice none 0 0))
            (first | exact HRD.out _ (Below.refl _ _).drew | exact HRD.out _ HG5.out | exact HRD.out _ HG4.out | exact HRD.out _ HG3.out | exact HRD.out _ HG2.out | exact HRD.out _ HG1.out)
            (first | (go_at_call 33; go_split_ands; (with_reducible refine (wtexts (HT3.out.below HGT.out) HT4.out hzl).mono ?_); rintro e y5 ⟨rfl, gh5⟩; have HG5 := Lib.hid (keepG HG4.out rfl gh5)) | (go_at_call 35; go_split_ands; (with_reducible refine (HK2.out _ HG3.out).mono ?_); rintro e y4 ⟨x4, cap4, rfl, hs4, gh4⟩; have HT4 := Lib.hid hs4; have HGT := Lib.hid gh4; have HG4 := Lib.hid (keepG HG3.out rfl gh4); clear hs4 gh4) | (go_at_call 34; go_split_ands; (with_reducible refine (HK1.out _ HG2.out).mono ?_); rintro e y3 ⟨x3, cap3, rfl, hs3, gh3⟩; have HT3 := Lib.hid hs3; have HG3 := Lib.hid (keepG HG2.out rfl gh3); clear hs3 gh3) | (go_at_call 32; go_split_ands; (first | (with_reducible refine (HW2.out _ HG1.out).mono ?_) | (with_reducible refine (wsame0 (w := y1)).mono ?_)); rintro e y2 ⟨rfl, gh2⟩; have HG2 := Lib.hid (keepG HG1.out rfl gh2); clear gh2) | (go_at_call 32; go_split_ands; (with_reducible refine (HW1.out _ (by assumption)).mono ?_); rintro e y1 ⟨rfl, gh1⟩; have HG1 := Lib.hid (keepG (by assumption) rfl gh1 : Below w9.heap.size w9 y1); clear gh1))
          go_wp2
          go_ret
          exact ⟨rfl, (H9.out.kept HG5.out).bel⟩
        · have hwr : IntKind.i64.wrap (st : Int) = (st : Int) := IntWalk.i64_in _ (by omega)
          have q1 : (0 : Int) ≤ (M : Int) := by omega
          have q2 : (M : Int) ≤ (cap : Int) := by omega
          have q3 : (M : Int) ≤ (n : Int) := by omega
          go_upto_region 40 with (fail)
          go_region_held3 (fun w' => Below w9.heap.size w9 w' ∧ w'.cell? ⟨q, 0, none⟩ = some (.slice (some ⟨g, 0, none⟩) n cap))
            (first | exact HRD.out _ (Below.refl _ _).drew | exact HRD.out _ HG5.out | exact HRD.out _ HG4.out | exact HRD.out _ HG3.out | exact HRD.out _ HG2.out | exact HRD.out _ HG1.out)
            (first | (go_at_call 33; go_split_ands; (with_reducible refine (wtexts (HT3.out.below HGT.out) HT4.out hzl).mono ?_); rintro e y5 ⟨rfl, gh5⟩; have HG5 := Lib.hid (keepG HG4.out rfl gh5)) | (go_at_call 35; go_split_ands; (with_reducible refine (HK2.out _ HG3.out).mono ?_); rintro e y4 ⟨x4, cap4, rfl, hs4, gh4⟩; have HT4 := Lib.hid hs4; have HGT := Lib.hid gh4; have HG4 := Lib.hid (keepG HG3.out rfl gh4); clear hs4 gh4) | (go_at_call 34; go_split_ands; (with_reducible refine (HK1.out _ HG2.out).mono ?_); rintro e y3 ⟨x3, cap3, rfl, hs3, gh3⟩; have HT3 := Lib.hid hs3; have HG3 := Lib.hid (keepG HG2.out rfl gh3); clear hs3 gh3) | (go_at_call 32; go_split_ands; (first | (with_reducible refine (HW2.out _ HG1.out).mono ?_) | (with_reducible refine (wsame0 (w := y1)).mono ?_)); rintro e y2 ⟨rfl, gh2⟩; have HG2 := Lib.hid (keepG HG1.out rfl gh2); clear gh2) | (go_at_call 32; go_split_ands; (with_reducible refine (HW1.out _ (by assumption)).mono ?_); rintro e y1 ⟨rfl, gh1⟩; have HG1 := Lib.hid (keepG (by assumption) rfl gh1 : Below w9.heap.size w9 y1); clear gh1))
          go_wp2
          go_ret
          exact ⟨rfl, (H9.out.kept HG5.out).bel⟩
end Go.Proofs.Ythkcfdnenbboaaa
