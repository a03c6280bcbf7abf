/- Runs: Note. -/
import Derived.Test.YtcbdmaffcjdnbaaS6
namespace Go.Proofs.Ytcbdmaffcjdnbaa
open Go.RowKit Go.Shelf Go.Maps Go.ChangeMaps
/-- 't.kinds[s] = ..'. -/
theorem run_note_kd {w : World} (mb M : Nat) (ks : List Kd) (hmap : MapIs w mb M ks) (hM : M < maxLen) (s : ByteArray) (n : Int) (hs : s.size ≤ maxLen) : ∃ w', (Instr.mapUpdate 40 (.map (some mb)) (.string s) (kval (kof (noteK ks s n) s))).run Try.prog w = .ok () w' ∧ MapIs w' mb (M + 1) (noteK ks s n) ∧ w.grownBy w' (some mb) := by
  obtain ⟨D, c, h1, h2, h3⟩ := hmap
  obtain ⟨w', hrun, r1, r2⟩ := h2.update Try.law9 Try.underlying40 (by omega) (keyL_of hs) (kelem_mk (kof (noteK ks s n) s))
  exact ⟨w', hrun, MapIs.noted h1 h2 (fun s => (h3 s).1) (fun s => (h3 s).2) r1, r2⟩
def ownL (v : Value) : List Nat := v.ownBlock.toList
def NoteEnd (w : World) (n0 b mb m : Nat) (ov : Value) (S : TS) (s : ByteArray) (n : Int) (e : Ending) (w' : World) : Prop :=
  e = .returned (.int .i64 (noteE S s n)) ∧ ∃ ov', TalI w' n0 b mb (m + 1) ov' (noteS S s n) ∧ But (b :: mb :: ownL ov) w w'
theorem TalI.more {w : World} {n0 b mb m : Nat} {ov : Value} {S : TS} (h : TalI w n0 b mb m ov S) : TalI w n0 b mb (m + 1) ov S := ⟨h.cells, h.row, h.map.mono (by omega), h.lb, h.lm⟩
theorem note_same {w : World} {n0 b mb m : Nat} {ov : Value} {S : TS} (h : TalI w n0 b mb m ov S) {s : ByteArray} {n : Int} {e : Ending} (he : noteE S s n ≠ 0) (hr : e = .returned (.int .i64 (noteE S s n))) : NoteEnd w n0 b mb m ov S s n e w := by
  refine ⟨hr, ov, ?_, But.refl _ _⟩
  unfold noteS; rw [if_neg he]; exact h.more
theorem string_emp (s : ByteArray) (c : Bool) (h : decide (s = ByteArray.empty) = c) : s.toList.isEmpty = c := by
  rw [← h, Bool.eq_iff_iff, decide_eq_true_eq, ByteArray.toList_eq]
  obtain ⟨⟨x⟩⟩ := s
  cases x with
  | nil => exact ⟨fun _ => rfl, fun _ => rfl⟩
  | cons a l =>
    constructor
    · intro q; cases q
    · intro q
      have := congrArg (fun b : ByteArray => b.data.toList) q
      cases this
set_option maxHeartbeats 1000000 in
theorem note_bad {w : World} {n0 b mb m : Nat} {ov : Value} {S : TS} (h : TalI w n0 b mb m ov S) (s : ByteArray) (n : Int) (hb : badNote s n = true) (hs : s.size ≤ maxLen) : Calls Try.prog 16 #[.pointer (some ⟨b, 0, none⟩), .string s, .int .i64 n] w (NoteEnd w n0 b mb m ov S s n) := by
  obtain ⟨c0, c1, c2, c3, c4, c5, c6, hf, hl⟩ := h.cells.get
  have H6 := Lib.hid c6
  have HT := Lib.hid h
  have he : noteE S s n = 1 := by unfold noteE; rw [hb]; rfl
  have HE := Lib.hid he
  clear c0 c1 c2 c3 c4 c5 c6 hf h he
  unfold maxLen at hs
  have fin : ∀ e, e = .returned (.int .i64 1) → NoteEnd w n0 b mb m ov S s n e w := fun e q => note_same HT.out (by rw [HE.out]; decide) (by rw [HE.out]; exact q)
  have FIN := Lib.hid fin
  clear fin
  simp only [badNote, Bool.or_eq_true, decide_eq_true_eq] at hb
  by_cases e1 : s = ByteArray.empty
  · have t1 := string_emp s true (decide_eq_true e1)
    clear hb e1
    go_enter Try.func16, Try.ntmps16
    go_wp2_with (go_at_call 27; refine (made_yes _ _ _ H6.out).mono ?_; rintro e w' ⟨rfl, rfl⟩)
    go_ret
    exact FIN.out _ rfl
  · have t1 := string_emp s false (decide_eq_false e1)
    by_cases e2 : 32 < s.size
    · clear hb e1
      go_enter Try.func16, Try.ntmps16
      go_wp2_with (go_at_call 27; refine (made_yes _ _ _ H6.out).mono ?_; rintro e w' ⟨rfl, rfl⟩)
      go_ret
      exact FIN.out _ rfl
    · by_cases e3 : n < 0
      · clear hb e1
        go_enter Try.func16, Try.ntmps16
        go_wp2_with (go_at_call 27; refine (made_yes _ _ _ H6.out).mono ?_; rintro e w' ⟨rfl, rfl⟩)
        go_ret
        exact FIN.out _ rfl
      · have e4 : 1099511627776 < n := by rcases hb with h | h | h | h <;> first | exact absurd h e1 | omega
        clear hb e1
        go_enter Try.func16, Try.ntmps16
        go_wp2_with (go_at_call 27; refine (made_yes _ _ _ H6.out).mono ?_; rintro e w' ⟨rfl, rfl⟩)
        go_ret
        exact FIN.out _ rfl
end Go.Proofs.Ytcbdmaffcjdnbaa
