/- Runs: both News, and the reference's Sum. -/
import Derived.Test.YtcbdmaffcjdnbaaS9
namespace Go.Proofs.Ytcbdmaffcjdnbaa
open Go.RowKit Go.Shelf Go.Maps Go.ChangeMaps
def S0 (W H : Int) : TS := ⟨bndN W H, 0, 0, 0, 0, []⟩
def NewEnd (w : World) (n0 : Nat) (W H : Int) (e : Ending) (w' : World) : Prop :=
  Below w.heap.size w w' ∧ ((bndE W H = 0 ∧ ∃ b mb, e = .returned (.tuple #[.pointer (some ⟨b, 0, none⟩), .int .i64 0]) ∧ TalI w' n0 b mb 0 (.slice none 0 0) (S0 W H)) ∨ (bndE W H = 330 ∧ e = .returned (.tuple #[.pointer none, .int .i64 330])))
theorem bndE_or (W H : Int) : bndE W H = 0 ∨ bndE W H = 330 := by unfold bndE; split <;> simp
theorem new_any (W H : Int) (w : World) (n0 : Nat) (hn : n0 ≤ w.heap.size) : Calls Try.prog 20 #[.int .i64 W, .int .i64 H] w (NewEnd w n0 W H) := by
  rcases bndE_or W H with q | q
  · have hmm := @run_makeMap Try.prog
    have HB := Lib.hid (fun w => tbound W H w)
    rw [q] at HB
    have HQ := Lib.hid q
    clear q
    go_enter Try.func20, Try.ntmps20
    go_wp2_with (go_at_call 7; refine (HB.out _).mono ?_; rintro e w' ⟨rfl, rfl⟩)
    go_ret2
    have hb0 : Below w.heap.size w ((w.alloc (.map #[] 0)).alloc (.cells #[.int .i64 (bndN W H), .int .i64 0, .int .i64 0, .int .i64 0, .int .i64 0, .slice none 0 0, .map (some w.heap.size)] 42)) := ((Below.refl _ _).alloc (Nat.le_refl _) _).alloc (by simp) _
    refine ⟨hb0, .inl ⟨HQ.out, w.heap.size + 1, w.heap.size, rfl, ?_, World.ownsRow_nil _ _ _ _, ?_, by omega, hn⟩⟩
    · have := World.alloc_heap_new (w.alloc (.map #[] 0)) (.cells #[.int .i64 (bndN W H), .int .i64 0, .int .i64 0, .int .i64 0, .int .i64 0, .slice none 0 0, .map (some w.heap.size)] 42)
      rw [World.size_alloc] at this
      exact this
    · exact ⟨.map [], 0, Nat.le_refl _, (World.ownsMap_made _ _ _ _).alloc _, fun s => ⟨rfl, fun h => absurd h (by simp [S0])⟩⟩
  · have HB := Lib.hid (fun w => tbound W H w)
    rw [q] at HB
    have HQ := Lib.hid q
    clear q
    go_enter Try.func20, Try.ntmps20
    go_wp2_with (go_at_call 7; refine (HB.out _).mono ?_; rintro e w' ⟨rfl, rfl⟩)
    go_ret2
    exact ⟨Below.refl _ _, .inr ⟨HQ.out, rfl⟩⟩
def rT (S : TS) (lv : Value) : Value := .agg #[.int .i64 S.bound, .int .i64 S.over, lv, .string ByteArray.empty, .int .i64 S.c, .int .i64 S.a, .int .i64 S.t]
def rcell (k : Kd) : List Value := [.string k.s, .int .i64 k.c, .int .i64 k.a, .int .i64 k.t]
def rflat (ks : List Kd) : List Value := ks.flatMap rcell
def RNewEnd (w : World) (W H : Int) (e : Ending) (w' : World) : Prop :=
  Below w.heap.size w w' ∧ ((bndE W H = 0 ∧ e = .returned (.tuple #[rT (S0 W H) (.slice none 0 0), .int .i64 0])) ∨ (bndE W H = 330 ∧ e = .returned (.tuple #[rT ⟨0, 0, 0, 0, 0, []⟩ (.slice none 0 0), .int .i64 330])))
theorem rnew_any (W H : Int) (w : World) : Calls Try.prog 21 #[.int .i64 W, .int .i64 H] w (RNewEnd w W H) := by
  rcases bndE_or W H with q | q
  · have HB := Lib.hid (fun w => rbound W H w)
    rw [q] at HB
    have HQ := Lib.hid q
    clear q
    go_enter Try.func21, Try.ntmps21
    go_wp2_with (go_at_call 8; refine (HB.out _).mono ?_; rintro e w' ⟨rfl, rfl⟩)
    refine bodyPost_ret (v := .tuple #[rT (S0 W H) (.slice none 0 0), .int .i64 0]) (by simp [results, Try.results21, go_sem, rT, S0]; try rfl) rfl ⟨?_, .inl ⟨HQ.out, rfl⟩⟩
    exact (Below.refl _ _).alloc (Nat.le_refl _) _
  · have HB := Lib.hid (fun w => rbound W H w)
    rw [q] at HB
    have HQ := Lib.hid q
    clear q
    go_enter Try.func21, Try.ntmps21
    go_wp2_with (go_at_call 8; refine (HB.out _).mono ?_; rintro e w' ⟨rfl, rfl⟩)
    refine bodyPost_ret (v := .tuple #[rT ⟨0, 0, 0, 0, 0, []⟩ (.slice none 0 0), .int .i64 330]) (by simp [results, Try.results21, go_sem, rT]; try rfl) rfl ⟨?_, .inr ⟨HQ.out, rfl⟩⟩
    exact (Below.refl _ _).alloc (Nat.le_refl _) _
theorem rflat_get (ks : List Kd) (i j : Nat) (hi : i < ks.length) (hj : j < 4) : (rflat ks)[i * 4 + j]? = (rcell (kn ks i))[j]? := by
  induction ks generalizing i with
  | nil => simp at hi
  | cons x ks ih =>
    have e : rflat (x :: ks) = rcell x ++ rflat ks := by simp [rflat]
    have hl : (rcell x).length = 4 := rfl
    rw [e]
    cases i with
    | zero => rw [List.getElem?_append_left (by rw [hl]; omega)]; simp [kn]
    | succ i =>
      rw [List.getElem?_append_right (by rw [hl]; omega), hl, show (i + 1) * 4 + j - 4 = i * 4 + j by omega, ih i (by simpa using hi)]
      simp [kn]
theorem rflat_length (ks : List Kd) : (rflat ks).length = ks.length * 4 := by
  induction ks with
  | nil => rfl
  | cons x ks ih => simp [rflat, rcell] at *; omega
/-- The reference's row in memory. -/
theorem rrow_cells {w : World} {n0 : Nat} {x : Option Addr} {n cap : Nat} {ks : List Kd} (h : w.ownsRow n0 56 4 (.slice x n cap) n (rflat ks)) (hn : n = ks.length) (hp : 0 < n) : ∃ g, x = some ⟨g, 0, none⟩ ∧ n0 ≤ g ∧ g < w.heap.size ∧ n ≤ cap ∧ cap ≤ maxLen ∧ ∀ i, i < n → w.cell? ⟨g, i * 4, none⟩ = some (.string (kn ks i).s) ∧ w.cell? ⟨g, i * 4 + 1, none⟩ = some (.int .i64 (kn ks i).c) ∧ w.cell? ⟨g, i * 4 + 2, none⟩ = some (.int .i64 (kn ks i).a) ∧ w.cell? ⟨g, i * 4 + 3, none⟩ = some (.int .i64 (kn ks i).t) := by
  have h' := h
  rcases h.2 with ⟨hv, h0⟩ | ⟨g, cp, cur, hv, hb, hg, hnc, hcm, hcs, htake⟩
  · omega
  · cases hv
    refine ⟨g, rfl, hb, (Array.getElem?_eq_some_iff.1 hg).1, hnc, hcm, fun i hi => ?_⟩
    have key : ∀ j v, j < 4 → (rcell (kn ks i))[j]? = some v → w.cell? ⟨g, i * 4 + j, none⟩ = some v := fun j v hj hv => by
      have := h'.cells (g := g) rfl (i * 4 + j) v (by rw [rflat_get ks i j (by omega) hj, hv])
      rwa [add_at] at this
    exact ⟨key 0 _ (by omega) rfl, key 1 _ (by omega) rfl, key 2 _ (by omega) rfl, key 3 _ (by omega) rfl⟩
end Go.Proofs.Ytcbdmaffcjdnbaa
