/- Runs: Note of a kind that is new. -/
import Derived.Test.YtcbdmaffcjdnbaaS8
import Derived.RangeFuncBox
namespace Go.Proofs.Ytcbdmaffcjdnbaa
open Go.RowKit Go.Shelf Go.Maps Go.ChangeMaps
theorem Try.info9 : (Try.prog.info? 9).map (fun i => (i.zero, i.size, i.bytes)) = some (some (.string ByteArray.empty), 1, 16) := by kernel_rfl
theorem info_parts9 : ∃ i0, Try.prog.info? 9 = some i0 ∧ i0.zero = some (.string ByteArray.empty) ∧ i0.size = 1 ∧ i0.bytes = 16 := by
  have h := Try.info9
  cases hi : Try.prog.info? 9 with
  | none => rw [hi] at h; cases h
  | some i0 =>
    rw [hi] at h
    simp only [Option.map_some, Option.some.injEq, Prod.mk.injEq] at h
    exact ⟨i0, rfl, h.1, h.2.1, h.2.2⟩
theorem keepG {W w' : World} {b mb h : Nat} {x y z : Int} (hb : b < W.heap.size) (hh : h < W.heap.size) (hbm : b ≠ mb) (hhm : h ≠ mb) (h6 : W.cell? ⟨b, 6, none⟩ = some (.map (some mb))) (t0 : W.cell? ⟨h, 0, none⟩ = some (.int .i64 x)) (t1 : W.cell? ⟨h, 1, none⟩ = some (.int .i64 y)) (t2 : W.cell? ⟨h, 2, none⟩ = some (.int .i64 z)) (hB : But [mb] W w') :
    But [mb] W w' ∧ w'.cell? ⟨b, 6, none⟩ = some (.map (some mb)) ∧ w'.cell? ⟨h, 0, none⟩ = some (.int .i64 x) ∧ w'.cell? ⟨h, 1, none⟩ = some (.int .i64 y) ∧ w'.cell? ⟨h, 2, none⟩ = some (.int .i64 z) :=
  ⟨hB, (hB.cell hb (by simpa using hbm)).trans h6, (hB.cell hh (by simpa using hhm)).trans t0, (hB.cell hh (by simpa using hhm)).trans t1, (hB.cell hh (by simpa using hhm)).trans t2⟩
set_option maxHeartbeats 1000000 in
theorem note_full {w : World} {n0 b mb m : Nat} {ov : Value} {S : TS} (h : TalI w n0 b mb m ov S) (hok : TOk m S) (s : ByteArray) (n : Int) (hb : badNote s n = false) (hp : ¬ plc S.ks s < S.ks.length) (hfull : 100 ≤ S.ks.length) : Calls Try.prog 16 #[.pointer (some ⟨b, 0, none⟩), .string s, .int .i64 n] w (NoteEnd w n0 b mb m ov S s n) := by
  obtain ⟨c0, c1, c2, c3, c4, c5, c6, hf, hl⟩ := h.cells.get
  obtain ⟨b1, b2, b3, b4⟩ := badNote_no hb
  obtain ⟨x, cap, rfl⟩ := owns_slice h.row
  have H6 := Lib.hid c6
  have HT := Lib.hid h
  have HM := Lib.hid h.map
  have HS := Lib.hid (show s.size ≤ maxLen by unfold maxLen; omega)
  have HG1 := Lib.hid (decide_eq_false hp)
  have t1 := string_emp s false (decide_eq_false b1)
  have hk : kof S.ks s = kz := by unfold kof; rw [if_neg hp]
  have HK := Lib.hid hk
  have HE := Lib.hid (show noteE S s n = 3 by have := plc_le S.ks s; unfold noteE; rw [hb]; simp only [Bool.false_eq_true, if_false]; rw [if_pos ⟨by omega, hfull⟩])
  have g2 : decide ((100 : Int) ≤ (S.ks.length : Int)) = true := by simp; omega
  have hlen := hok.len
  clear c0 c1 c2 c3 c4 hf h b1 hb hp hok hk
  go_enter Try.func16, Try.ntmps16
  go_wp2_with (first | (go_at_call 27; refine (made_yes _ _ _ H6.out).mono ?_; rintro e w' ⟨rfl, rfl⟩) | (at_lookup; refine wpList_look_kd_ok _ rfl rfl _ _ rfl mb m S.ks rfl HM.out s rfl HS.out ?_; rw [HK.out, HG1.out]; unfold kval kz))
  go_ret
  have hB := (Below.refl w.heap.size w).alloc (Nat.le_refl _) (.cells #[.int .i64 0, .int .i64 0, .int .i64 0] 38)
  refine ⟨by rw [HE.out]; rfl, .slice x S.ks.length cap, ?_, But.of hB⟩
  unfold noteS
  rw [if_neg (by rw [HE.out]; decide)]
  exact (HT.out.below hB).more
theorem TCells.setOv {w : World} {b : Nat} {S : TS} {ov : Value} {mb : Nat} (h : TCells w b S ov mb) (v : Value) : TCells (w.setCell ⟨b, 5, none⟩ v) b S v mb := by
  unfold TCells at h ⊢
  obtain ⟨hlt, hk⟩ := Array.getElem?_eq_some_iff.1 h
  show (w.heap.modify b _)[b]? = _
  rw [Array.getElem?_eq_getElem (by rw [Array.size_modify]; exact hlt), Array.getElem_modify_self, hk]
  rfl
theorem new_fin {w W w3 w4 w5 : World} {n0 b mb m : Nat} {ov v1 : Value} {S S' : TS} {s : ByteArray} {n : Int} (hT : TalI w n0 b mb m ov S) (hp : ¬ plc S.ks s < S.ks.length) (hS' : S'.ks = noteK S.ks s n)
    (hBW : But (b :: ownL ov) w W) (hrow : W.ownsRow n0 9 1 v1 (S.ks.length + 1) (names S.ks ++ [.string s])) (hsep : ∀ j, v1.ownBlock = some j → j ≠ b ∧ j ≠ mb)
    (hBN : But [mb] W w3) (hM : MapIs w3 mb (m + 1) (noteK S.ks s n)) (hB4 : Below w3.heap.size w3 w4) (T5 : TCells w5 b S' v1 mb) (hB5 : But [b] w4 w5) : TalI w5 n0 b mb (m + 1) v1 S' ∧ But (b :: mb :: ownL ov) w w5 := by
  have hBx : But [b, mb] W w5 := (hBN.sub (fun j hj _ => by simp at hj; simp [hj])).trans ((But.of hB4).trans (hB5.sub (fun j hj _ => by simp at hj; simp [hj])))
  obtain ⟨s1, s2⟩ := hT.sep
  refine ⟨⟨T5, ?_, ?_, hT.lb, hT.lm⟩, (hBW.sub (fun j hj _ => by simp at hj; rcases hj with rfl | hj <;> simp [*])).trans (hBx.sub (fun j hj _ => by simp at hj; rcases hj with rfl | rfl <;> simp))⟩
  · have e1 : S'.ks.length = S.ks.length + 1 := by rw [hS', note_len, if_neg hp]
    have e2 : names S'.ks = names S.ks ++ [.string s] := by rw [hS']; unfold noteK; rw [if_neg hp]; simp [names, more]
    rw [e1, e2]
    refine row_kept hrow (fun j hj => ?_)
    obtain ⟨cur, hg, _⟩ := row_block hrow hj
    exact hBx.block j (Array.getElem?_eq_some_iff.1 hg).1 (by have := hsep j hj; simp; exact this)
  · rw [hS']
    refine (hM.block (hB4.block mb hM.lt)).block (hB5.block mb ?_ (by simpa using s1))
    have := hM.lt; have := hB4.size; omega
set_option maxHeartbeats 4000000 in
theorem note_new {w : World} {n0 b mb m : Nat} {ov : Value} {S : TS} (h : TalI w n0 b mb m ov S) (hok : TOk m S) (hm : m ≤ 100) (s : ByteArray) (n : Int) (hb : badNote s n = false) (hp : ¬ plc S.ks s < S.ks.length) (hfull : S.ks.length < 100) : Calls Try.prog 16 #[.pointer (some ⟨b, 0, none⟩), .string s, .int .i64 n] w (NoteEnd w n0 b mb m ov S s n) := by
  obtain ⟨c0, c1, c2, c3, c4, c5, c6, hf, hl⟩ := h.cells.get
  obtain ⟨b1, b2, b3, b4⟩ := badNote_no hb
  obtain ⟨x, cap, rfl⟩ := owns_slice h.row
  obtain ⟨i0, hi0, hz0, hz1, hz2⟩ := info_parts9
  have HI0 := Lib.hid hi0
  have HZ0 := Lib.hid hz0
  have HZ1 := Lib.hid hz1
  have HZ2 := Lib.hid hz2
  have H6 := Lib.hid c6
  have HT := Lib.hid h
  have HR := Lib.hid h.row
  have HM := Lib.hid h.map
  have HP := Lib.hid hp
  have hlm := h.map.lt
  have hbm : b ≠ mb := fun e => h.sep.1 e.symm
  have HS := Lib.hid (show s.size ≤ maxLen by unfold maxLen; omega)
  have HG1 := Lib.hid (decide_eq_false hp)
  have t1 := string_emp s false (decide_eq_false b1)
  have hk : kof S.ks s = kz := by unfold kof; rw [if_neg hp]
  have HK := Lib.hid hk
  have HE := Lib.hid (show noteE S s n = 0 by unfold noteE; rw [hb]; simp only [Bool.false_eq_true, if_false]; rw [if_neg (by omega)])
  have g2 : decide ((100 : Int) ≤ (S.ks.length : Int)) = false := by simp; omega
  have HNK := Lib.hid (show kval (kof (noteK S.ks s n) s) = .agg #[.int .i64 1, .int .i64 (min 1152921504606846976 n), .int .i64 (max 0 n)] by rw [kof_note, if_pos rfl, if_neg hp]; simp [kval, more])
  have HA := Lib.hid (fun W => show Calls Try.prog 29 #[.agg #[.int .i64 0, .int .i64 0, .int .i64 0], .int .i64 n] W fun e w' => e = .returned (.agg #[.int .i64 1, .int .i64 (min 1152921504606846976 n), .int .i64 (max 0 n)]) ∧ Below W.heap.size W w' by simpa [kz] using add_any kz n W (by simp [kz]) (by simp [kz]) (by simp [kz]) (by simp [kz]) b3 b4)
  have HA2 := Lib.hid (fun W => add_any ⟨ByteArray.empty, S.c, S.a, S.t⟩ n W hok.c0 (by have := hok.c1; show S.c ≤ 1000; omega) hok.a0 hok.a1 b3 b4)
  have o0 := hok.o0
  have o1 := hok.o1
  have f5 := hf 5
  have HLN := Lib.hid hfull
  clear c0 c1 c2 c3 c4 hf h b1 hb hp hok hk hi0 hz0 hz1 hz2
  have HB1 := Lib.hid (fun w1 (hg : ((w.alloc (.cells #[.int .i64 0, .int .i64 0, .int .i64 0] 38)).alloc (.cells #[.string s] 9)).grownBy w1 (Value.slice x S.ks.length cap).ownBlock) => show But (ownL (.slice x S.ks.length cap)) (w.alloc (.cells #[.int .i64 0, .int .i64 0, .int .i64 0] 38)) w1 from ((But.refl (ownL (.slice x S.ks.length cap)) _).alloc _).grown hg (fun j e => by simp [ownL, e]))
  have HBO := Lib.hid (show ∀ j, j ∈ ownL (.slice x S.ks.length cap) → j ≠ b ∧ j ≠ mb ∧ j < w.heap.size by
    intro j hj
    have hj' : (Value.slice x S.ks.length cap).ownBlock = some j := by simpa [ownL] using hj
    obtain ⟨cur, hg, _⟩ := row_block HR.out hj'
    exact ⟨(HT.out.sep.2 j hj').1, (HT.out.sep.2 j hj').2, (Array.getElem?_eq_some_iff.1 hg).1⟩)
  have HT0 := Lib.hid (show TCells (w.alloc (.cells #[.int .i64 0, .int .i64 0, .int .i64 0] 38)) b S (.slice x S.ks.length cap) mb from (Below.heap_alloc _ _ _ hl).trans HT.out.cells)
  have hlb := HT.out.lb
  have hbs : n0 ≤ w.heap.size := by omega
  have HBS := Lib.hid hbs
  clear hlb hbs
  go_enter Try.func16, Try.ntmps16
  go_wp2_with (first | (go_at_call 27; refine (made_yes _ _ _ H6.out).mono ?_; rintro e w' ⟨rfl, rfl⟩) | (at_lookup; refine wpList_look_kd_ok _ rfl rfl _ _ rfl mb m S.ks rfl HM.out s rfl HS.out ?_; rw [HK.out, HG1.out]; unfold kval kz) | (at_builtin; go_loud (refine wpList_append_own _ rfl _ _ 39 rfl n0 9 i0 (.string ByteArray.empty) 1 16 Try.underlying39 HI0.out HZ0.out HZ1.out HZ2.out rfl (by decide) _ _ _ rfl ((HR.out.alloc _).alloc _) ⟨w.heap.size + 1, 0, none⟩ 1 1 [.string s] rfl rfl (by simpa using cell_one_new (w.alloc (.cells #[.int .i64 0, .int .i64 0, .int .i64 0] 38)) (.string s) 9) (by intro u hu; simp at hu; subst hu; rfl) (by have := HLN.out; unfold maxLen; omega) (by have := HLN.out; omega) (by have := HBS.out; simp; omega) ?_); intro v1 w1 hown1 hgrow1 hnil1; (obtain ⟨gg, cp, rfl⟩ := ownsRow_succ hown1); have T1 := HT0.out.but (HB1.out w1 hgrow1) (fun q => (HBO.out b q).1 rfl); (obtain ⟨d0, d1, d2, d3, d4, d5, d6, df, dl⟩ := T1.get); have df5 := df 5; have HT1 := Lib.hid T1; have HO1 := Lib.hid hown1; have HG2 := Lib.hid hgrow1; clear hown1 hgrow1 hnil1 T1 d0 d1 d2 d3 d4 d6 df))
  have hBB := HB1.out w1 HG2.out
  have T2 := HT1.out.setOv (.slice (some ⟨gg, 0, none⟩) (S.ks.length + 1) cp)
  have hBW : But (b :: ownL (.slice x S.ks.length cap)) (w.alloc (.cells #[.int .i64 0, .int .i64 0, .int .i64 0] 38)) (w1.setCell ⟨b, 5, none⟩ (.slice (some ⟨gg, 0, none⟩) (S.ks.length + 1) cp)) := (hBB.sub (fun j hj _ => by simp [hj])).set _ _ (by simp)
  have hgb : gg ≠ b ∧ gg ≠ mb := by
    obtain ⟨cur, hg, _⟩ := row_block HO1.out (j := gg) rfl
    refine ⟨fun e => ?_, fun e => ?_⟩
    · subst e
      have := HT1.out
      unfold TCells at this
      rw [hg] at this; simp at this
    · subst e
      obtain ⟨D, c, _, ⟨es, clock, hmb, _⟩, _⟩ := HM.out
      have := hBB.heap ((Below.heap_alloc _ _ _ hlm).trans hmb) (fun q => (HBO.out _ q).2.1 rfl)
      rw [hg] at this; cases this
  have hrow : (w1.setCell ⟨b, 5, none⟩ (.slice (some ⟨gg, 0, none⟩) (S.ks.length + 1) cp)).ownsRow n0 9 1 (.slice (some ⟨gg, 0, none⟩) (S.ks.length + 1) cp) (S.ks.length + 1) (names S.ks ++ [.string s]) :=
    row_kept HO1.out (fun j hj => set_other (by have : gg = j := by simpa [Value.ownBlock] using hj
                                                omega))
  have hmap : MapIs (w1.setCell ⟨b, 5, none⟩ (.slice (some ⟨gg, 0, none⟩) (S.ks.length + 1) cp)) mb m S.ks := by
    refine ((HM.out.block (Below.heap_alloc _ _ _ hlm)).block (hBB.block mb (by simp; omega) (fun q => (HBO.out _ q).2.1 rfl))).block (set_other (fun e => hbm e.symm))
  have hsz : w.heap.size + 1 ≤ (w1.setCell ⟨b, 5, none⟩ (.slice (some ⟨gg, 0, none⟩) (S.ks.length + 1) cp)).heap.size := by have := hBW.size; simpa using this
  have ht : ∀ i v, (w.alloc (.cells #[.int .i64 0, .int .i64 0, .int .i64 0] 38)).cell? ⟨w.heap.size, i, none⟩ = some v → (w1.setCell ⟨b, 5, none⟩ (.slice (some ⟨gg, 0, none⟩) (S.ks.length + 1) cp)).cell? ⟨w.heap.size, i, none⟩ = some v := fun i v hv => (hBW.cell (by simp) (by
    simp only [List.mem_cons, not_or]
    exact ⟨by omega, fun q => by have := (HBO.out _ q).2.2; omega⟩)).trans hv
  have u0 := ht 0 (.int .i64 0) (by simp [go_sem])
  have u1 := ht 1 (.int .i64 0) (by simp [go_sem])
  have u2 := ht 2 (.int .i64 0) (by simp [go_sem])
  generalize w1.setCell ⟨b, 5, none⟩ (.slice (some ⟨gg, 0, none⟩) (S.ks.length + 1) cp) = W at *
  obtain ⟨d0, d1, d2, d3, d4, d5', d6, df, dl'⟩ := T2.get
  have HT2 := Lib.hid T2
  have HBW := Lib.hid hBW
  have HMP := Lib.hid hmap
  have HRW := Lib.hid hrow
  have HGB := Lib.hid hgb
  have hhs : w.heap.size ≠ mb := by omega
  have hws : w.heap.size < W.heap.size := by omega
  clear T2 hBW hmap hrow hgb hBB ht d0 d1 d2 d3 d4 d5 d5' df df5 c5 c6 f5
  go_region_held3 (fun w' => But [mb] W w' ∧ w'.cell? ⟨b, 6, none⟩ = some (.map (some mb)) ∧ w'.cell? ⟨w.heap.size, 0, none⟩ = some (.int .i64 0) ∧ w'.cell? ⟨w.heap.size, 1, none⟩ = some (.int .i64 0) ∧ w'.cell? ⟨w.heap.size, 2, none⟩ = some (.int .i64 0))
    (first | exact keepG dl' hws hbm hhs d6 u0 u1 u2 (But.refl _ _) | exact keepG dl' hws hbm hhs d6 u0 u1 u2 (But.refl _ _).drew | exact keepG dl' hws hbm hhs d6 u0 u1 u2 ((But.refl _ _).drew.below HB2.out) | exact keepG dl' hws hbm hhs d6 u0 u1 u2 (((But.refl _ _).drew.below HB2.out).grown HG3.out (fun j e => by simp at e; simp [e])))
    ((go_at_call 29; refine (HA.out _).mono ?_; rintro e w2 ⟨rfl, hB2⟩; obtain ⟨w3, hrun, hM3, hg3⟩ := run_note_kd mb m S.ks (HMP.out.block (hB2.block mb HMP.out.lt)) (by unfold maxLen; omega) s n HS.out; rw [HNK.out] at hrun; have HM3 := Lib.hid hM3; have HG3 := Lib.hid hg3; have HB2 := Lib.hid hB2; clear hM3 hg3))
  have hBN : But [mb] W w3 := ((But.refl _ _).drew.below HB2.out).grown HG3.out (fun j e => by simp at e; simp [e])
  have T3 := HT2.out.but hBN (by simpa using hbm)
  obtain ⟨d0, d1, d2, d3, d4, d5, d6', df, dl2⟩ := T3.get
  have HT3 := Lib.hid T3
  have HBN := Lib.hid hBN
  clear T3 d0 d1 d5 d6 d6' df hBN u0 u1 u2
  by_cases q : S.bound < n
  · have HQ := Lib.hid q
    go_wp2_with (go_at_call 29; refine (HA2.out _).mono ?_; rintro e w4 ⟨rfl, hB4⟩; have T4 := HT3.out.but (But.of (l := []) hB4) List.not_mem_nil; obtain ⟨e0, e1, e2, e3, e4, e5, e6, ef, el⟩ := T4.get; have f0 := ef 0; have f1 := ef 1; have f2 := ef 2; have f3 := ef 3; have f4 := ef 4; have HB4 := Lib.hid hB4; have HT4 := Lib.hid T4; clear hB4 T4 ef e5 e6 d2 d3 d4)
    go_ret
    have hE : noteE S s n = 0 := HE.out
    have hS : noteS S s n = ⟨S.bound, S.over + 1, S.c + 1, min 1152921504606846976 (S.a + n), max S.t n, noteK S.ks s n⟩ := by unfold noteS; rw [if_pos hE, if_pos HQ.out]
    refine ⟨by rw [hE]; rfl, .slice (some ⟨gg, 0, none⟩) (S.ks.length + 1) cp, ?_⟩
    rw [hS]
    refine new_fin HT.out HP.out rfl (((But.refl _ w).alloc _).trans HBW.out) HRW.out (fun j hj => ?_) HBN.out HM3.out HB4.out ?_ (((((But.refl _ _).set _ _ (by simp)).set _ _ (by simp)).set _ _ (by simp)).set _ _ (by simp))
    · have : gg = j := by simpa [Value.ownBlock] using hj
      subst this; exact HGB.out
    · exact (((HT4.out.set { S with c := S.c + 1 } 2 _ rfl).set { S with c := S.c + 1, a := min 1152921504606846976 (S.a + n) } 3 _ rfl).set { S with c := S.c + 1, a := min 1152921504606846976 (S.a + n), t := max S.t n } 4 _ rfl).set _ 1 _ rfl
  · have HQ := Lib.hid q
    go_wp2_with (go_at_call 29; refine (HA2.out _).mono ?_; rintro e w4 ⟨rfl, hB4⟩; have T4 := HT3.out.but (But.of (l := []) hB4) List.not_mem_nil; obtain ⟨e0, e1, e2, e3, e4, e5, e6, ef, el⟩ := T4.get; have f0 := ef 0; have f1 := ef 1; have f2 := ef 2; have f3 := ef 3; have f4 := ef 4; have HB4 := Lib.hid hB4; have HT4 := Lib.hid T4; clear hB4 T4 ef e5 e6 d2 d3 d4)
    go_ret
    have hE : noteE S s n = 0 := HE.out
    have hS : noteS S s n = ⟨S.bound, S.over, S.c + 1, min 1152921504606846976 (S.a + n), max S.t n, noteK S.ks s n⟩ := by unfold noteS; rw [if_pos hE, if_neg (by have := HQ.out; omega)]
    refine ⟨by rw [hE]; rfl, .slice (some ⟨gg, 0, none⟩) (S.ks.length + 1) cp, ?_⟩
    rw [hS]
    refine new_fin HT.out HP.out rfl (((But.refl _ w).alloc _).trans HBW.out) HRW.out (fun j hj => ?_) HBN.out HM3.out HB4.out ?_ ((((But.refl _ _).set _ _ (by simp)).set _ _ (by simp)).set _ _ (by simp))
    · have : gg = j := by simpa [Value.ownBlock] using hj
      subst this; exact HGB.out
    · exact ((HT4.out.set { S with c := S.c + 1 } 2 _ rfl).set { S with c := S.c + 1, a := min 1152921504606846976 (S.a + n) } 3 _ rfl).set _ 4 _ rfl
theorem note_yes {w : World} {n0 b mb m : Nat} {ov : Value} {S : TS} (h : TalI w n0 b mb m ov S) (hok : TOk m S) (hm : m ≤ 100) (s : ByteArray) (n : Int) (hs : s.size ≤ maxLen) : Calls Try.prog 16 #[.pointer (some ⟨b, 0, none⟩), .string s, .int .i64 n] w (NoteEnd w n0 b mb m ov S s n) := by
  cases hb : badNote s n
  · by_cases hp : plc S.ks s < S.ks.length
    · exact note_there h hok hm s n hb hp
    · by_cases hf : S.ks.length < 100
      · exact note_new h hok hm s n hb hp hf
      · exact note_full h hok s n hb hp (by omega)
  · exact note_bad h s n hb hs
end Go.Proofs.Ytcbdmaffcjdnbaa
