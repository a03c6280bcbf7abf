/- Runs: the reference's Note of the first kind. -/
import Derived.Test.YtcbdmaffcjdnbaaS14
import Derived.Laws.AppendOwnNone
namespace Go.Proofs.Ytcbdmaffcjdnbaa
open Go.RowKit Go.Shelf Go.Maps Go.ChangeMaps
set_option maxRecDepth 100000 in
set_option maxHeartbeats 8000000 in
theorem rnote_new_nil (S : TS) (w : World) (n0 m : Nat) (hn0 : n0 ≤ w.heap.size) (hok : TOk m S) (hm : m ≤ 100) (hks : S.ks = []) (s : ByteArray) (n : Int) (hb : badNote s n = false) (hp : ¬ plc S.ks s < S.ks.length) : Calls Try.prog 22 #[rT S (.slice none 0 0), .string s, .int .i64 n] w (RNoteEnd w n0 S s n) := by
  unfold rT
  obtain ⟨b1, b2, b3, b4⟩ := badNote_no hb
  have t1 := string_emp s false (decide_eq_false b1)
  have HOK := Lib.hid hok
  have HP := Lib.hid hp
  have HE := Lib.hid (show noteE S s n = 0 by unfold noteE; rw [hb]; simp only [Bool.false_eq_true, if_false]; rw [if_neg (by rw [hks]; simp)])
  obtain ⟨i0, hi0, hz0, hz1, hz2⟩ := info_parts56
  have HI0 := Lib.hid hi0
  have HZ0 := Lib.hid hz0
  have HZ1 := Lib.hid hz1
  have HZ2 := Lib.hid hz2
  clear hi0 hz0 hz1 hz2
  have HN := Lib.hid (show S.ks.length = 0 by rw [hks]; rfl)
  have HKS := Lib.hid hks
  have HRN := Lib.hid (show rflat S.ks = [] by rw [hks]; rfl)
  clear hb b1 hok hks hp
  go_enter Try.func22, Try.ntmps22
  go_wp2
  go_loop [8] (fun i => i = .int .i64 0) (fun _ => 0)
  case atStart => exact rfl
  case round =>
    subst hrel
    have HOE := Lib.hid (show (((w.alloc (.cells #[.int .i64 S.bound, .int .i64 S.over, .slice none 0 0, .string ByteArray.empty, .int .i64 S.c, .int .i64 S.a, .int .i64 S.t] 58)).alloc (.cells #[.int .i64 0, .int .i64 0, .slice none 0 0, .string ⟨#[]⟩, .int .i64 0, .int .i64 0, .int .i64 0] 58)).alloc (.cells #[] 56)).ownsRow (w.heap.size + 2) 56 4 (.slice (some ⟨w.heap.size + 1 + 1, 0, none⟩) 0 0) 0 [] by
      have := owns_empty ((w.alloc (.cells #[.int .i64 S.bound, .int .i64 S.over, .slice none 0 0, .string ByteArray.empty, .int .i64 S.c, .int .i64 S.a, .int .i64 S.t] 58)).alloc (.cells #[.int .i64 0, .int .i64 0, .slice none 0 0, .string ⟨#[]⟩, .int .i64 0, .int .i64 0, .int .i64 0] 58)) (w.heap.size + 2) (by simp)
      simpa using this)
    have HBX := Lib.hid (fun w1 (hg : (((w.alloc (.cells #[.int .i64 S.bound, .int .i64 S.over, .slice none 0 0, .string ByteArray.empty, .int .i64 S.c, .int .i64 S.a, .int .i64 S.t] 58)).alloc (.cells #[.int .i64 0, .int .i64 0, .slice none 0 0, .string ⟨#[]⟩, .int .i64 0, .int .i64 0, .int .i64 0] 58)).alloc (.cells #[] 56)).grownBy w1 (some (w.heap.size + 1 + 1))) => box_grown (w := w) (a := .cells #[.int .i64 S.bound, .int .i64 S.over, .slice none 0 0, .string ByteArray.empty, .int .i64 S.c, .int .i64 S.a, .int .i64 S.t] 58) (b := .cells #[.int .i64 0, .int .i64 0, .slice none 0 0, .string ⟨#[]⟩, .int .i64 0, .int .i64 0, .int .i64 0] 58) (c := .cells #[] 56) hg)
    have HMID := Lib.hid (fun (w1 : World) (v1 : Value) (hB : w1.heap[w.heap.size]? = some (.cells #[.int .i64 S.bound, .int .i64 S.over, .slice none 0 0, .string ByteArray.empty, .int .i64 S.c, .int .i64 S.a, .int .i64 S.t] 58) ∧ w1.heap[w.heap.size + 1]? = some (.cells #[.int .i64 0, .int .i64 0, .slice none 0 0, .string ⟨#[]⟩, .int .i64 0, .int .i64 0, .int .i64 0] 58) ∧ Below w.heap.size w w1) (ho : w1.ownsRow (w.heap.size + 2) 56 4 v1 0 (rflat S.ks)) => mid_store (w := w) (N := 0) hB.1 hB.2.1 hB.2.2 ho)
    have HM1 := Lib.hid (show RBoxS (((w.alloc (.cells #[.int .i64 S.bound, .int .i64 S.over, (.slice (some ⟨w.heap.size + 1 + 1, 0, none⟩) 0 0), .string ByteArray.empty, .int .i64 S.c, .int .i64 S.a, .int .i64 S.t] 58)).alloc (.cells #[.int .i64 0, .int .i64 0, .slice none 0 0, .string ⟨#[]⟩, .int .i64 0, .int .i64 0, .int .i64 0] 58)).alloc (.cells #[] 56)) w.heap.size S (.slice (some ⟨w.heap.size + 1 + 1, 0, none⟩) 0 0) ∧ RBoxZ (((w.alloc (.cells #[.int .i64 S.bound, .int .i64 S.over, (.slice (some ⟨w.heap.size + 1 + 1, 0, none⟩) 0 0), .string ByteArray.empty, .int .i64 S.c, .int .i64 S.a, .int .i64 S.t] 58)).alloc (.cells #[.int .i64 0, .int .i64 0, .slice none 0 0, .string ⟨#[]⟩, .int .i64 0, .int .i64 0, .int .i64 0] 58)).alloc (.cells #[] 56)) (w.heap.size + 1) ∧ (((w.alloc (.cells #[.int .i64 S.bound, .int .i64 S.over, (.slice (some ⟨w.heap.size + 1 + 1, 0, none⟩) 0 0), .string ByteArray.empty, .int .i64 S.c, .int .i64 S.a, .int .i64 S.t] 58)).alloc (.cells #[.int .i64 0, .int .i64 0, .slice none 0 0, .string ⟨#[]⟩, .int .i64 0, .int .i64 0, .int .i64 0] 58)).alloc (.cells #[] 56)).ownsRow (w.heap.size + 2) 56 4 (.slice (some ⟨w.heap.size + 1 + 1, 0, none⟩) 0 0) 0 (rflat S.ks) ∧ Below w.heap.size w (((w.alloc (.cells #[.int .i64 S.bound, .int .i64 S.over, (.slice (some ⟨w.heap.size + 1 + 1, 0, none⟩) 0 0), .string ByteArray.empty, .int .i64 S.c, .int .i64 S.a, .int .i64 S.t] 58)).alloc (.cells #[.int .i64 0, .int .i64 0, .slice none 0 0, .string ⟨#[]⟩, .int .i64 0, .int .i64 0, .int .i64 0] 58)).alloc (.cells #[] 56)) by
      have h1 := box_grown (w := w) (a := .cells #[.int .i64 S.bound, .int .i64 S.over, (.slice (some ⟨w.heap.size + 1 + 1, 0, none⟩) 0 0), .string ByteArray.empty, .int .i64 S.c, .int .i64 S.a, .int .i64 S.t] 58) (b := .cells #[.int .i64 0, .int .i64 0, .slice none 0 0, .string ⟨#[]⟩, .int .i64 0, .int .i64 0, .int .i64 0] 58) (c := .cells #[] 56) ⟨rfl, rfl, rfl, Nat.le_refl _, fun _ _ _ => rfl⟩
      have h2 := owns_empty ((w.alloc (.cells #[.int .i64 S.bound, .int .i64 S.over, (.slice (some ⟨w.heap.size + 1 + 1, 0, none⟩) 0 0), .string ByteArray.empty, .int .i64 S.c, .int .i64 S.a, .int .i64 S.t] 58)).alloc (.cells #[.int .i64 0, .int .i64 0, .slice none 0 0, .string ⟨#[]⟩, .int .i64 0, .int .i64 0, .int .i64 0] 58)) (w.heap.size + 2) (by simp)
      refine ⟨h1.1, h1.2.1, ?_, h1.2.2⟩
      rw [HRN.out]
      simpa using h2)
    go_wp2_with (first | (at_builtin; go_loud (refine wpList_append_own_none rfl _ _ 49 rfl (w.heap.size + 2) 56 i0 4 Try.underlying49 HI0.out _ _ _ rfl HOE.out rfl ?_)) | (at_builtin; go_loud (refine wpList_append_own _ rfl _ _ 49 rfl (w.heap.size + 2) 56 i0 (.agg #[.string ByteArray.empty, .int .i64 0, .int .i64 0, .int .i64 0]) 4 40 Try.underlying49 HI0.out HZ0.out HZ1.out HZ2.out rfl (by decide) _ _ _ rfl (HM1.out.2.2.1.alloc _) ⟨w.heap.size + 1 + 1 + 1, 0, none⟩ 1 1 (rcell ⟨s, 0, 0, 0⟩) rfl rfl (new_cells (((w.alloc (.cells #[.int .i64 S.bound, .int .i64 S.over, (.slice (some ⟨w.heap.size + 1 + 1, 0, none⟩) 0 0), .string ByteArray.empty, .int .i64 S.c, .int .i64 S.a, .int .i64 S.t] 58)).alloc (.cells #[.int .i64 0, .int .i64 0, .slice none 0 0, .string ⟨#[]⟩, .int .i64 0, .int .i64 0, .int .i64 0] 58)).alloc (.cells #[] 56)) s _ (by simp)) (by intro u hu; simp [rcell] at hu; rcases hu with rfl | rfl | rfl <;> rfl) (by unfold maxLen; omega) (by omega) (by simp <;> omega) ?_); intro v2 w2 hown2 hgrow2 hnil2; rw [← rflat_snoc] at hown2; (obtain ⟨x2, cap2, rfl⟩ := owns_slice hown2); have hM2 := mid_grown HM1.out hgrow2; (obtain ⟨⟨e0, e1, e2, e3, e4, e5, e6⟩, ef, el⟩ := RBox.get hM2.1); have ef2 := ef 2; have HM2 := Lib.hid hM2; have HO2 := Lib.hid hown2; clear hown2 hgrow2 hnil2 ef e0 e1 e3 e4 e5 e6 hM2))
    have hM3 := mid3 HM2.out HO2.out
    generalize w2.setCell ⟨w.heap.size, 2, none⟩ (.slice x2 1 cap2) = W at *
    obtain ⟨hrb, hrz, hrw, hbw⟩ := hM3
    obtain ⟨g2, rfl, _, hg2W, _, _, hce⟩ := rrow_cells hrw (by rw [List.length_append, HN.out]; rfl) (by omega)
    obtain ⟨v0, v1, v2, v3⟩ := hce 0 (by omega)
    rw [show kn (S.ks ++ [⟨s, 0, 0, 0⟩]) 0 = ⟨s, 0, 0, 0⟩ by rw [kn_snoc, HN.out, if_pos rfl]] at v0 v1 v2 v3
    dsimp only at v0 v1 v2 v3
    simp only [Nat.zero_mul, Nat.zero_add] at v0 v1 v2 v3
    have hfr := row_free hrw
    obtain ⟨⟨_, _, l2, _, _, _, _⟩, _, ldl⟩ := RBox.get hrb
    have HRB := Lib.hid hrb
    have HRZ := Lib.hid hrz
    have HBW := Lib.hid hbw
    have HRW := Lib.hid hrw
    have HFR := Lib.hid hfr
    have HMR := Lib.hid (fun W => show Calls Try.prog 30 #[.agg #[.string s, .int .i64 0, .int .i64 0, .int .i64 0], .int .i64 n] W fun e w' => e = .returned (.agg #[.string s, .int .i64 1, .int .i64 (min 1152921504606846976 n), .int .i64 (max 0 n)]) ∧ Below W.heap.size W w' by simpa using rmore_any ⟨s, 0, 0, 0⟩ n W (by simp) (by simp) (by simp) (by simp) b3 b4)
    have HMS := Lib.hid (fun W => rmore_any ⟨ByteArray.empty, S.c, S.a, S.t⟩ n W HOK.out.c0 (by have := HOK.out.c1; show S.c ≤ 1000; omega) HOK.out.a0 HOK.out.a1 b3 b4)
    have o0 := HOK.out.o0
    have o1 := HOK.out.o1
    clear hrb hrz hbw hrw hce hfr HM2 HO2 HM1
    go_region_with (go_at_call 30; refine (HMR.out _).mono ?_; rintro e w2 ⟨rfl, hB2⟩; (obtain ⟨hc2, hf2⟩ := bcell hB2); have m0 := (hc2 g2 (0) hg2W).trans v0; have m1 := (hc2 g2 (1) hg2W).trans v1; have m2 := (hc2 g2 (2) hg2W).trans v2; have m3 := (hc2 g2 (3) hg2W).trans v3; have ml := (hc2 w.heap.size 2 ldl).trans l2; have fz0 := (hf2 g2 (0) hg2W).trans (HFR.out _); have fz1 := (hf2 g2 (1) hg2W).trans (HFR.out _); have fz2 := (hf2 g2 (2) hg2W).trans (HFR.out _); have fz3 := (hf2 g2 (3) hg2W).trans (HFR.out _); have HB2 := Lib.hid hB2; clear hB2 hc2 hf2)
    all_goals
      obtain ⟨p1, p2, p3, p4⟩ := after11 (k := 0) ⟨s, 1, min 1152921504606846976 n, max 0 n⟩ HB2.out HRB.out HRZ.out HRW.out HBW.out.drew
      clear m0 m1 m2 m3 ml fz0 fz1 fz2 fz3
      dsimp only [W11] at p1 p2 p3 p4
      simp only [Nat.zero_mul, Nat.zero_add] at p1 p2 p3 p4
      generalize (((w2.setCell ⟨g2, 0, none⟩ (.string s)).setCell ⟨g2, 1, none⟩ (.int .i64 1)).setCell ⟨g2, 2, none⟩ (.int .i64 (min 1152921504606846976 n))).setCell ⟨g2, 3, none⟩ (.int .i64 (max 0 n)) = W5 at *
      obtain ⟨⟨_, _, _, c3, c4, c5, c6⟩, _, cl⟩ := RBox.get p1
      have P1 := Lib.hid p1
      have P2 := Lib.hid p2
      have P3 := Lib.hid p3
      have P4 := Lib.hid p4
      clear p1 p2 p3 p4 HB2 HRB HRZ HRW HBW HFR
      by_cases q : S.bound < n
      · have HQ := Lib.hid q
        go_wp2_with (go_at_call 30; refine (HMS.out _).mono ?_; rintro e w4 ⟨rfl, hB4⟩; have T1 := P1.out.keep hB4; have T2 := P2.out.keep hB4; (obtain ⟨⟨e0, e1, e2, e3, e4, e5, e6⟩, ef, el⟩ := RBox.get T1); (obtain ⟨⟨r0', r1, r2, r3, r4, r5, r6⟩, rf, rl⟩ := RBox.get T2); have ef0 := ef 0; have ef1 := ef 1; have ef3 := ef 3; have ef4 := ef 4; have ef5 := ef 5; have ef6 := ef 6; have rf0 := rf 0; have rf1 := rf 1; have rf2 := rf 2; have rf3 := rf 3; have rf4 := rf 4; have rf5 := rf 5; have rf6 := rf 6; have HB4 := Lib.hid hB4; have T1' := Lib.hid T1; have T2' := Lib.hid T2; clear hB4 T1 T2 ef rf c3 c4 c5 c6)
        have hE : noteE S s n = 0 := HE.out
        have hS : noteS S s n = ⟨S.bound, S.over + 1, S.c + 1, min 1152921504606846976 (S.a + n), max S.t n, (S.ks ++ [(⟨s, 0, 0, 0⟩ : Kd)]).set 0 (⟨s, 1, min 1152921504606846976 n, max 0 n⟩ : Kd)⟩ := by
          unfold noteS noteK
          rw [if_pos hE, if_pos HQ.out, if_neg HP.out, ← HN.out, new_set]
        have hbut := (show But [w.heap.size, w.heap.size + 1] w4 ((((((((((((w4.setCell ⟨w.heap.size, 3, none⟩ (.string ByteArray.empty)).setCell ⟨w.heap.size, 4, none⟩ (.int .i64 (S.c + 1))).setCell ⟨w.heap.size, 5, none⟩ (.int .i64 (min 1152921504606846976 (S.a + n)))).setCell ⟨w.heap.size, 6, none⟩ (.int .i64 (max S.t n))).setCell ⟨w.heap.size, 1, none⟩ (.int .i64 (S.over + 1))).setCell ⟨w.heap.size + 1, 0, none⟩ (.int .i64 S.bound)).setCell ⟨w.heap.size + 1, 1, none⟩ (.int .i64 (S.over + 1))).setCell ⟨w.heap.size + 1, 2, none⟩ (.slice (some ⟨g2, 0, none⟩) 1 cap2)).setCell ⟨w.heap.size + 1, 3, none⟩ (.string ByteArray.empty)).setCell ⟨w.heap.size + 1, 4, none⟩ (.int .i64 (S.c + 1))).setCell ⟨w.heap.size + 1, 5, none⟩ (.int .i64 (min 1152921504606846976 (S.a + n)))).setCell ⟨w.heap.size + 1, 6, none⟩ (.int .i64 (max S.t n))) from (((((((((((((But.refl _ _).set _ _ (by simp)).set _ _ (by simp)).set _ _ (by simp)).set _ _ (by simp)).set _ _ (by simp)).set _ _ (by simp)).set _ _ (by simp)).set _ _ (by simp)).set _ _ (by simp)).set _ _ (by simp)).set _ _ (by simp)).set _ _ (by simp)))
        have hbox : RBox ((((((((((((w4.setCell ⟨w.heap.size, 3, none⟩ (.string ByteArray.empty)).setCell ⟨w.heap.size, 4, none⟩ (.int .i64 (S.c + 1))).setCell ⟨w.heap.size, 5, none⟩ (.int .i64 (min 1152921504606846976 (S.a + n)))).setCell ⟨w.heap.size, 6, none⟩ (.int .i64 (max S.t n))).setCell ⟨w.heap.size, 1, none⟩ (.int .i64 (S.over + 1))).setCell ⟨w.heap.size + 1, 0, none⟩ (.int .i64 S.bound)).setCell ⟨w.heap.size + 1, 1, none⟩ (.int .i64 (S.over + 1))).setCell ⟨w.heap.size + 1, 2, none⟩ (.slice (some ⟨g2, 0, none⟩) 1 cap2)).setCell ⟨w.heap.size + 1, 3, none⟩ (.string ByteArray.empty)).setCell ⟨w.heap.size + 1, 4, none⟩ (.int .i64 (S.c + 1))).setCell ⟨w.heap.size + 1, 5, none⟩ (.int .i64 (min 1152921504606846976 (S.a + n)))).setCell ⟨w.heap.size + 1, 6, none⟩ (.int .i64 (max S.t n))) (w.heap.size + 1) (.int .i64 S.bound) (.int .i64 (S.over + 1)) (.slice (some ⟨g2, 0, none⟩) 1 cap2) (.string ByteArray.empty) (.int .i64 (S.c + 1)) (.int .i64 (min 1152921504606846976 (S.a + n))) (.int .i64 (max S.t n)) := (RBox.upd (RBox.upd (RBox.upd (RBox.upd (RBox.upd (RBox.upd (RBox.upd (((((T2'.out.skip (by omega)).skip (by omega)).skip (by omega)).skip (by omega)).skip (by omega)) 0 _ rfl) 1 _ rfl) 2 _ rfl) 3 _ rfl) 4 _ rfl) 5 _ rfl) 6 _ rfl)
        have FIN := fun e he => rfin (e := e) hn0 P3.out P4.out HB4.out hbut hE hS rfl (by rw [List.length_set, List.length_append, HN.out]; rfl) he
        clear hbut
        generalize (((((((((((w4.setCell ⟨w.heap.size, 3, none⟩ (.string ByteArray.empty)).setCell ⟨w.heap.size, 4, none⟩ (.int .i64 (S.c + 1))).setCell ⟨w.heap.size, 5, none⟩ (.int .i64 (min 1152921504606846976 (S.a + n)))).setCell ⟨w.heap.size, 6, none⟩ (.int .i64 (max S.t n))).setCell ⟨w.heap.size, 1, none⟩ (.int .i64 (S.over + 1))).setCell ⟨w.heap.size + 1, 0, none⟩ (.int .i64 S.bound)).setCell ⟨w.heap.size + 1, 1, none⟩ (.int .i64 (S.over + 1))).setCell ⟨w.heap.size + 1, 2, none⟩ (.slice (some ⟨g2, 0, none⟩) 1 cap2)).setCell ⟨w.heap.size + 1, 3, none⟩ (.string ByteArray.empty)).setCell ⟨w.heap.size + 1, 4, none⟩ (.int .i64 (S.c + 1))).setCell ⟨w.heap.size + 1, 5, none⟩ (.int .i64 (min 1152921504606846976 (S.a + n)))).setCell ⟨w.heap.size + 1, 6, none⟩ (.int .i64 (max S.t n)) = Wf at *
        obtain ⟨⟨y0, y1, y2, y3, y4, y5, y6⟩, _, _⟩ := RBox.get hbox
        exact bodyPost_ret (by simp [results, Try.results22, go_sem, y0, y1, y2, y3, y4, y5, y6]; rfl) rfl (FIN _ rfl)
      · have HQ := Lib.hid q
        go_wp2_with (go_at_call 30; refine (HMS.out _).mono ?_; rintro e w4 ⟨rfl, hB4⟩; have T1 := P1.out.keep hB4; have T2 := P2.out.keep hB4; (obtain ⟨⟨e0, e1, e2, e3, e4, e5, e6⟩, ef, el⟩ := RBox.get T1); (obtain ⟨⟨r0', r1, r2, r3, r4, r5, r6⟩, rf, rl⟩ := RBox.get T2); have ef0 := ef 0; have ef1 := ef 1; have ef3 := ef 3; have ef4 := ef 4; have ef5 := ef 5; have ef6 := ef 6; have rf0 := rf 0; have rf1 := rf 1; have rf2 := rf 2; have rf3 := rf 3; have rf4 := rf 4; have rf5 := rf 5; have rf6 := rf 6; have HB4 := Lib.hid hB4; have T1' := Lib.hid T1; have T2' := Lib.hid T2; clear hB4 T1 T2 ef rf c3 c4 c5 c6)
        have hE : noteE S s n = 0 := HE.out
        have hS : noteS S s n = ⟨S.bound, S.over, S.c + 1, min 1152921504606846976 (S.a + n), max S.t n, (S.ks ++ [(⟨s, 0, 0, 0⟩ : Kd)]).set 0 (⟨s, 1, min 1152921504606846976 n, max 0 n⟩ : Kd)⟩ := by
          unfold noteS noteK
          rw [if_pos hE, if_neg (by have := HQ.out; omega), if_neg HP.out, ← HN.out, new_set]
        have hbut := (show But [w.heap.size, w.heap.size + 1] w4 (((((((((((w4.setCell ⟨w.heap.size, 3, none⟩ (.string ByteArray.empty)).setCell ⟨w.heap.size, 4, none⟩ (.int .i64 (S.c + 1))).setCell ⟨w.heap.size, 5, none⟩ (.int .i64 (min 1152921504606846976 (S.a + n)))).setCell ⟨w.heap.size, 6, none⟩ (.int .i64 (max S.t n))).setCell ⟨w.heap.size + 1, 0, none⟩ (.int .i64 S.bound)).setCell ⟨w.heap.size + 1, 1, none⟩ (.int .i64 (S.over))).setCell ⟨w.heap.size + 1, 2, none⟩ (.slice (some ⟨g2, 0, none⟩) 1 cap2)).setCell ⟨w.heap.size + 1, 3, none⟩ (.string ByteArray.empty)).setCell ⟨w.heap.size + 1, 4, none⟩ (.int .i64 (S.c + 1))).setCell ⟨w.heap.size + 1, 5, none⟩ (.int .i64 (min 1152921504606846976 (S.a + n)))).setCell ⟨w.heap.size + 1, 6, none⟩ (.int .i64 (max S.t n))) from ((((((((((((But.refl _ _).set _ _ (by simp)).set _ _ (by simp)).set _ _ (by simp)).set _ _ (by simp)).set _ _ (by simp)).set _ _ (by simp)).set _ _ (by simp)).set _ _ (by simp)).set _ _ (by simp)).set _ _ (by simp)).set _ _ (by simp)))
        have hbox : RBox (((((((((((w4.setCell ⟨w.heap.size, 3, none⟩ (.string ByteArray.empty)).setCell ⟨w.heap.size, 4, none⟩ (.int .i64 (S.c + 1))).setCell ⟨w.heap.size, 5, none⟩ (.int .i64 (min 1152921504606846976 (S.a + n)))).setCell ⟨w.heap.size, 6, none⟩ (.int .i64 (max S.t n))).setCell ⟨w.heap.size + 1, 0, none⟩ (.int .i64 S.bound)).setCell ⟨w.heap.size + 1, 1, none⟩ (.int .i64 (S.over))).setCell ⟨w.heap.size + 1, 2, none⟩ (.slice (some ⟨g2, 0, none⟩) 1 cap2)).setCell ⟨w.heap.size + 1, 3, none⟩ (.string ByteArray.empty)).setCell ⟨w.heap.size + 1, 4, none⟩ (.int .i64 (S.c + 1))).setCell ⟨w.heap.size + 1, 5, none⟩ (.int .i64 (min 1152921504606846976 (S.a + n)))).setCell ⟨w.heap.size + 1, 6, none⟩ (.int .i64 (max S.t n))) (w.heap.size + 1) (.int .i64 S.bound) (.int .i64 (S.over)) (.slice (some ⟨g2, 0, none⟩) 1 cap2) (.string ByteArray.empty) (.int .i64 (S.c + 1)) (.int .i64 (min 1152921504606846976 (S.a + n))) (.int .i64 (max S.t n)) := (RBox.upd (RBox.upd (RBox.upd (RBox.upd (RBox.upd (RBox.upd (RBox.upd ((((T2'.out.skip (by omega)).skip (by omega)).skip (by omega)).skip (by omega)) 0 _ rfl) 1 _ rfl) 2 _ rfl) 3 _ rfl) 4 _ rfl) 5 _ rfl) 6 _ rfl)
        have FIN := fun e he => rfin (e := e) hn0 P3.out P4.out HB4.out hbut hE hS rfl (by rw [List.length_set, List.length_append, HN.out]; rfl) he
        clear hbut
        generalize ((((((((((w4.setCell ⟨w.heap.size, 3, none⟩ (.string ByteArray.empty)).setCell ⟨w.heap.size, 4, none⟩ (.int .i64 (S.c + 1))).setCell ⟨w.heap.size, 5, none⟩ (.int .i64 (min 1152921504606846976 (S.a + n)))).setCell ⟨w.heap.size, 6, none⟩ (.int .i64 (max S.t n))).setCell ⟨w.heap.size + 1, 0, none⟩ (.int .i64 S.bound)).setCell ⟨w.heap.size + 1, 1, none⟩ (.int .i64 (S.over))).setCell ⟨w.heap.size + 1, 2, none⟩ (.slice (some ⟨g2, 0, none⟩) 1 cap2)).setCell ⟨w.heap.size + 1, 3, none⟩ (.string ByteArray.empty)).setCell ⟨w.heap.size + 1, 4, none⟩ (.int .i64 (S.c + 1))).setCell ⟨w.heap.size + 1, 5, none⟩ (.int .i64 (min 1152921504606846976 (S.a + n)))).setCell ⟨w.heap.size + 1, 6, none⟩ (.int .i64 (max S.t n)) = Wf at *
        obtain ⟨⟨y0, y1, y2, y3, y4, y5, y6⟩, _, _⟩ := RBox.get hbox
        exact bodyPost_ret (by simp [results, Try.results22, go_sem, y0, y1, y2, y3, y4, y5, y6]; rfl) rfl (FIN _ rfl)
end Go.Proofs.Ytcbdmaffcjdnbaa
