/- Runs: the reference's Note. -/
import Derived.Test.YtcbdmaffcjdnbaaS11
namespace Go.Proofs.Ytcbdmaffcjdnbaa
open Go.RowKit Go.Shelf Go.Maps Go.ChangeMaps
def RNoteEnd (w : World) (n0 : Nat) (S : TS) (s : ByteArray) (n : Int) (e : Ending) (w' : World) : Prop :=
  Below w.heap.size w w' ∧ ∃ x cap, e = .returned (.tuple #[rT (noteS S s n) (.slice x (noteS S s n).ks.length cap), .int .i64 (noteE S s n)]) ∧ w'.ownsRow n0 56 4 (.slice x (noteS S s n).ks.length cap) (noteS S s n).ks.length (rflat (noteS S s n).ks)
theorem rnote_same {w w' : World} {n0 : Nat} {S : TS} {x : Option Addr} {cap : Nat} (hr : w.ownsRow n0 56 4 (.slice x S.ks.length cap) S.ks.length (rflat S.ks)) (hB : Below w.heap.size w w') {s : ByteArray} {n : Int} {e : Ending} (he : noteE S s n ≠ 0) (h : e = .returned (.tuple #[rT S (.slice x S.ks.length cap), .int .i64 (noteE S s n)])) : RNoteEnd w n0 S s n e w' := by
  refine ⟨hB, x, cap, ?_⟩
  unfold noteS; rw [if_neg he]
  refine ⟨h, row_kept hr (fun j hj => ?_)⟩
  obtain ⟨cur, hg, _⟩ := row_block hr hj
  exact hB.block j (Array.getElem?_eq_some_iff.1 hg).1
set_option maxRecDepth 100000 in
set_option maxHeartbeats 1000000 in
theorem rnote_bad (S : TS) (x : Option Addr) (cap : Nat) (w : World) (n0 : Nat) (hr : w.ownsRow n0 56 4 (.slice x S.ks.length cap) S.ks.length (rflat S.ks)) (s : ByteArray) (n : Int) (hb : badNote s n = true) (hs : s.size ≤ maxLen) : Calls Try.prog 22 #[rT S (.slice x S.ks.length cap), .string s, .int .i64 n] w (RNoteEnd w n0 S s n) := by
  have he : noteE S s n = 1 := by unfold noteE; rw [hb]; rfl
  unfold maxLen at hs
  have HE := Lib.hid he
  have fin : ∀ e w', Below w.heap.size w w' → e = .returned (.tuple #[rT S (.slice x S.ks.length cap), .int .i64 1]) → RNoteEnd w n0 S s n e w' := fun e w' hB q => rnote_same hr hB (by rw [he]; decide) (by rw [he]; exact q)
  have FIN := Lib.hid fin
  clear fin he hr
  unfold rT at FIN ⊢
  simp only [badNote, Bool.or_eq_true, decide_eq_true_eq] at hb
  by_cases e1 : s = ByteArray.empty
  · have t1 := string_emp s true (decide_eq_true e1)
    clear hb e1
    go_enter Try.func22, Try.ntmps22
    go_wp2
    refine bodyPost_ret (by simp [results, Try.results22, go_sem]) rfl (FIN.out _ _ ?_ rfl)
    exact ((Below.refl _ _).alloc (Nat.le_refl _) _).alloc (by simp) _
  · have t1 := string_emp s false (decide_eq_false e1)
    by_cases e2 : 32 < s.size
    · clear hb e1
      go_enter Try.func22, Try.ntmps22
      go_wp2
      refine bodyPost_ret (by simp [results, Try.results22, go_sem]) rfl (FIN.out _ _ ?_ rfl)
      exact ((Below.refl _ _).alloc (Nat.le_refl _) _).alloc (by simp) _
    · by_cases e3 : n < 0
      · clear hb e1
        go_enter Try.func22, Try.ntmps22
        go_wp2
        refine bodyPost_ret (by simp [results, Try.results22, go_sem]) rfl (FIN.out _ _ ?_ rfl)
        exact ((Below.refl _ _).alloc (Nat.le_refl _) _).alloc (by simp) _
      · have e4 : 1099511627776 < n := by rcases hb with h | h | h | h <;> first | exact absurd h e1 | omega
        clear hb e1
        go_enter Try.func22, Try.ntmps22
        go_wp2
        refine bodyPost_ret (by simp [results, Try.results22, go_sem]) rfl (FIN.out _ _ ?_ rfl)
        exact ((Below.refl _ _).alloc (Nat.le_refl _) _).alloc (by simp) _
end Go.Proofs.Ytcbdmaffcjdnbaa
