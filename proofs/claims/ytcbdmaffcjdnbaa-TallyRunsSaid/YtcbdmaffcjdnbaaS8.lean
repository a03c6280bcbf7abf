/- Runs: Note of a kind that is there. -/
import Derived.Test.YtcbdmaffcjdnbaaS7

namespace Go.Proofs.Ytcbdmaffcjdnbaa
open Go.RowKit Go.Shelf Go.Maps Go.ChangeMaps
abbrev NW (w : World) (k : Kd) : World := w.alloc (.cells #[.int .i64 k.c, .int .i64 k.a, .int .i64 k.t] 38)
theorem But.cell {l : List Nat} {w w' : World} (h : But l w w') {b o : Nat} (hb : b < w.heap.size) (hl : b ∉ l) : w'.cell? ⟨b, o, none⟩ = w.cell? ⟨b, o, none⟩ := World.cell?_of_block (h.block b hb hl)
theorem keepN {w w' : World} {b mb : Nat} {k : Kd} (hb : b < w.heap.size) (hm : mb < w.heap.size) (hbm : b ≠ mb) (h6 : w.cell? ⟨b, 6, none⟩ = some (.map (some mb))) (h : But [mb] (NW w k) w') :
    But [mb] (NW w k) w' ∧ w'.cell? ⟨b, 6, none⟩ = some (.map (some mb)) ∧ w'.cell? ⟨w.heap.size, 0, none⟩ = some (.int .i64 k.c) ∧ w'.cell? ⟨w.heap.size, 1, none⟩ = some (.int .i64 k.a) ∧ w'.cell? ⟨w.heap.size, 2, none⟩ = some (.int .i64 k.t) := by
  have H : ∀ b o, b < w.heap.size + 1 → b ≠ mb → w'.cell? ⟨b, o, none⟩ = (NW w k).cell? ⟨b, o, none⟩ := fun b o hb hne => h.cell (by simp; omega) (by simpa using hne)
  refine ⟨h, ?_, ?_, ?_, ?_⟩
  · rw [H _ _ (by omega) hbm, ← h6]
    exact ((Below.refl w.heap.size w).alloc (Nat.le_refl _) _).cell hb
  · rw [H _ _ (by omega) (by omega)]; simp [go_sem]
  · rw [H _ _ (by omega) (by omega)]; simp [go_sem]
  · rw [H _ _ (by omega) (by omega)]; simp [go_sem]
theorem TCells.but {l : List Nat} {w w' : World} {b : Nat} {S : TS} {ov : Value} {mb : Nat} (h : TCells w b S ov mb) (hB : But l w w') (hb : b ∉ l) : TCells w' b S ov mb := hB.heap h hb
theorem TCells.newN {w w' : World} {b : Nat} {S : TS} {ov : Value} {mb : Nat} {k : Kd} (h : TCells w b S ov mb) (hB : But [mb] (NW w k) w') (hb : b ≠ mb) : TCells w' b S ov mb := hB.heap ((Below.heap_alloc _ _ _ h.get.2.2.2.2.2.2.2.2).trans h) (by simpa using hb)
theorem mapN {w w' : World} {mb m : Nat} {ks : List Kd} {o : Obj} (h : MapIs w mb m ks) (hB : Below (w.heap.size + 1) (w.alloc o) w') : MapIs w' mb m ks :=
  h.block ((hB.block mb (by have := h.lt; omega)).trans (Below.heap_alloc _ _ _ h.lt))
theorem TCells.set {w : World} {b : Nat} {S : TS} {ov : Value} {mb : Nat} (h : TCells w b S ov mb) (S' : TS) (o : Nat) (v : Value) (hS : (Obj.cells (#[.int .i64 S.bound, .int .i64 S.over, .int .i64 S.c, .int .i64 S.a, .int .i64 S.t, ov, .map (some mb)].setIfInBounds o v) 42 (0, 0)) = .cells #[.int .i64 S'.bound, .int .i64 S'.over, .int .i64 S'.c, .int .i64 S'.a, .int .i64 S'.t, ov, .map (some mb)] 42 (0, 0)) : TCells (w.setCell ⟨b, o, none⟩ v) b S' ov mb := by
  unfold TCells at h ⊢
  rw [← hS]
  obtain ⟨hlt, hk⟩ := Array.getElem?_eq_some_iff.1 h
  show (w.heap.modify b _)[b]? = _
  rw [Array.getElem?_eq_getElem (by rw [Array.size_modify]; exact hlt), Array.getElem_modify_self, hk]
  rfl
theorem names_set (ks : List Kd) (i : Nat) (k : Kd) (h : k.s = (kn ks i).s) : names (ks.set i k) = names ks := by
  unfold names
  induction ks generalizing i with
  | nil => rfl
  | cons x ks ih =>
    cases i with
    | zero => have : k.s = x.s := by simpa [kn] using h
              simp [this]
    | succ i => simp only [List.set_cons_succ, List.map_cons]; rw [ih i (by simpa [kn] using h)]
theorem note_fin {w w3 w4 w5 : World} {n0 b mb m : Nat} {ov : Value} {S S' : TS} {k : Kd} {s : ByteArray} {n : Int} (hT : TalI w n0 b mb m ov S) (hp : plc S.ks s < S.ks.length) (hS' : S'.ks = noteK S.ks s n)
    (hBN : But [mb] (NW w k) w3) (hM : MapIs w3 mb (m + 1) (noteK S.ks s n)) (hB4 : Below w3.heap.size w3 w4) (T5 : TCells w5 b S' ov mb) (hB5 : But [b] w4 w5) : TalI w5 n0 b mb (m + 1) ov S' ∧ But (b :: mb :: ownL ov) w w5 := by
  have hBx : But [b, mb] w w5 := (((But.refl [b, mb] w).alloc _).trans (hBN.sub (fun j hj _ => by simp at hj; simp [hj]))).trans ((But.of hB4).trans (hB5.sub (fun j hj _ => by simp at hj; simp [hj])))
  obtain ⟨s1, s2⟩ := hT.sep
  refine ⟨⟨T5, ?_, ?_, hT.lb, hT.lm⟩, hBx.sub (fun j hj _ => by simp at hj; rcases hj with rfl | rfl <;> simp)⟩
  · have e1 : S'.ks.length = S.ks.length := by rw [hS', note_len, if_pos hp]
    have e2 : names S'.ks = names S.ks := by rw [hS']; unfold noteK; rw [if_pos hp]; exact names_set _ _ _ rfl
    rw [e1, e2]
    refine row_kept hT.row (fun j hj => ?_)
    obtain ⟨cur, hg, _⟩ := row_block hT.row hj
    exact hBx.block j (Array.getElem?_eq_some_iff.1 hg).1 (by have := s2 j hj; simp; exact this)
  · rw [hS']
    refine (hM.block (hB4.block mb hM.lt)).block (hB5.block mb ?_ (by simpa using s1))
    have := hM.lt; have := hB4.size; omega
set_option maxHeartbeats 2000000 in
theorem note_there {w : World} {n0 b mb m : Nat} {ov : Value} {S : TS} (h : TalI w n0 b mb m ov S) (hok : TOk m S) (hm : m ≤ 100) (s : ByteArray) (n : Int) (hb : badNote s n = false) (hp : plc S.ks s < S.ks.length) : Calls Try.prog 16 #[.pointer (some ⟨b, 0, none⟩), .string s, .int .i64 n] w (NoteEnd w n0 b mb m ov S s n) := by
  obtain ⟨c0, c1, c2, c3, c4, c5, c6, hf, hl⟩ := h.cells.get
  obtain ⟨b1, b2, b3, b4⟩ := badNote_no hb
  have H6 := Lib.hid c6
  have HT := Lib.hid h
  have HM := Lib.hid h.map
  have HS := Lib.hid (show s.size ≤ maxLen by unfold maxLen; omega)
  have HP := Lib.hid hp
  have HE := Lib.hid (show noteE S s n = 0 by unfold noteE; rw [hb]; simp only [Bool.false_eq_true, if_false]; rw [if_neg (by omega)])
  have hlm := h.map.lt
  have hbm : b ≠ mb := fun e => h.sep.1 e.symm
  have g1 : decide (plc S.ks s < S.ks.length) = true := decide_eq_true hp
  have HG1 := Lib.hid g1
  have t1 := string_emp s false (decide_eq_false b1)
  obtain ⟨k, hk⟩ : ∃ k, kof S.ks s = k := ⟨_, rfl⟩
  have hkn : k = kn S.ks (plc S.ks s) := by rw [← hk]; unfold kof; rw [if_pos hp]
  have hko := hok.each _ hp
  rw [← hkn] at hko
  have HK := Lib.hid hk
  have hnk : kof (noteK S.ks s n) s = ⟨k.s, k.c + 1, min 1152921504606846976 (k.a + n), max k.t n⟩ := by
    rw [kof_note, if_pos rfl, if_pos hp, hk]; rfl
  have HNK := Lib.hid (show kval (kof (noteK S.ks s n) s) = .agg #[.int .i64 (k.c + 1), .int .i64 (min 1152921504606846976 (k.a + n)), .int .i64 (max k.t n)] by rw [hnk]; rfl)
  obtain ⟨k1, k2, k3, k4, k5, k6, _⟩ := hko
  have HA := Lib.hid (fun W => add_any k n W k1 (by omega) k3 k4 b3 b4)
  have HA2 := Lib.hid (fun W => add_any ⟨ByteArray.empty, S.c, S.a, S.t⟩ n W hok.c0 (by have := hok.c1; show S.c ≤ 1000; omega) hok.a0 hok.a1 b3 b4)
  have o0 := hok.o0
  have o1 := hok.o1
  clear c0 c1 c2 c3 c4 c5 hf h b1 hb hp hok hk hkn g1 hnk k1 k2 k3 k4 k5 k6
  go_enter Try.func16, Try.ntmps16
  go_wp2_with (first | (go_at_call 27; refine (made_yes _ _ _ H6.out).mono ?_; rintro e w' ⟨rfl, rfl⟩) | (at_lookup; refine wpList_look_kd_ok _ rfl rfl _ _ rfl mb m S.ks rfl HM.out s rfl HS.out ?_; rw [HK.out, HG1.out]; unfold kval))
  go_region_held3 (fun w' => But [mb] (NW w k) w' ∧ w'.cell? ⟨b, 6, none⟩ = some (.map (some mb)) ∧ w'.cell? ⟨w.heap.size, 0, none⟩ = some (.int .i64 k.c) ∧ w'.cell? ⟨w.heap.size, 1, none⟩ = some (.int .i64 k.a) ∧ w'.cell? ⟨w.heap.size, 2, none⟩ = some (.int .i64 k.t))
    (first | exact keepN hl hlm hbm c6 (But.refl _ _) | exact keepN hl hlm hbm c6 (But.refl _ _).drew | exact keepN hl hlm hbm c6 ((But.refl _ _).drew.below HB2.out) | exact keepN hl hlm hbm c6 (((But.refl _ _).drew.below HB2.out).grown HG3.out (fun j e => by simp at e; simp [e])))
    ((go_at_call 29; refine (HA.out _).mono ?_; rintro e w2 ⟨rfl, hB2⟩; obtain ⟨w3, hrun, hM3, hg3⟩ := run_note_kd mb m S.ks (mapN HM.out ((Below.refl _ _).drew.trans (hB2.mono (by simp)))) (by unfold maxLen; omega) s n HS.out; rw [HNK.out] at hrun; have HM3 := Lib.hid hM3; have HG3 := Lib.hid hg3; have HB2 := Lib.hid hB2; clear hM3 hg3))
  have hBN : But [mb] (NW w k) w3 := ((But.refl _ _).drew.below HB2.out).grown HG3.out (fun j e => by simp at e; simp [e])
  have T3 := HT.out.cells.newN hBN hbm
  obtain ⟨d0, d1, d2, d3, d4, d5, d6, df, dl⟩ := T3.get
  have HT3 := Lib.hid T3
  have HBN := Lib.hid hBN
  clear T3 d0 d1 d5 d6 df c6 hBN
  by_cases q : S.bound < n
  · have HQ := Lib.hid q
    go_wp2_with (go_at_call 29; refine (HA2.out _).mono ?_; rintro e w4 ⟨rfl, hB4⟩; have T4 := HT3.out.but (But.of (l := []) hB4) List.not_mem_nil; obtain ⟨e0, e1, e2, e3, e4, e5, e6, ef, el⟩ := T4.get; have f0 := ef 0; have f1 := ef 1; have f2 := ef 2; have f3 := ef 3; have f4 := ef 4; have HB4 := Lib.hid hB4; have HT4 := Lib.hid T4; clear hB4 T4 ef e5 e6 d2 d3 d4)
    go_ret
    have hE : noteE S s n = 0 := HE.out
    have hS : noteS S s n = ⟨S.bound, S.over + 1, S.c + 1, min 1152921504606846976 (S.a + n), max S.t n, noteK S.ks s n⟩ := by unfold noteS; rw [if_pos hE, if_pos HQ.out]
    refine ⟨by rw [hE]; rfl, ov, ?_⟩
    rw [hS]
    refine note_fin HT.out HP.out rfl HBN.out HM3.out HB4.out ?_ (((((But.refl _ _).set _ _ (by simp)).set _ _ (by simp)).set _ _ (by simp)).set _ _ (by simp))
    exact (((HT4.out.set { S with c := S.c + 1 } 2 _ rfl).set { S with c := S.c + 1, a := min 1152921504606846976 (S.a + n) } 3 _ rfl).set { S with c := S.c + 1, a := min 1152921504606846976 (S.a + n), t := max S.t n } 4 _ rfl).set _ 1 _ rfl
  · have HQ := Lib.hid q
    go_wp2_with (go_at_call 29; refine (HA2.out _).mono ?_; rintro e w4 ⟨rfl, hB4⟩; have T4 := HT3.out.but (But.of (l := []) hB4) List.not_mem_nil; obtain ⟨e0, e1, e2, e3, e4, e5, e6, ef, el⟩ := T4.get; have f0 := ef 0; have f1 := ef 1; have f2 := ef 2; have f3 := ef 3; have f4 := ef 4; have HB4 := Lib.hid hB4; have HT4 := Lib.hid T4; clear hB4 T4 ef e5 e6 d2 d3 d4)
    go_ret
    have hE : noteE S s n = 0 := HE.out
    have hS : noteS S s n = ⟨S.bound, S.over, S.c + 1, min 1152921504606846976 (S.a + n), max S.t n, noteK S.ks s n⟩ := by unfold noteS; rw [if_pos hE, if_neg (by have := HQ.out; omega)]
    refine ⟨by rw [hE]; rfl, ov, ?_⟩
    rw [hS]
    refine note_fin HT.out HP.out rfl HBN.out HM3.out HB4.out ?_ ((((But.refl _ _).set _ _ (by simp)).set _ _ (by simp)).set _ _ (by simp))
    exact ((HT4.out.set { S with c := S.c + 1 } 2 _ rfl).set { S with c := S.c + 1, a := min 1152921504606846976 (S.a + n) } 3 _ rfl).set _ 4 _ rfl
end Go.Proofs.Ytcbdmaffcjdnbaa
