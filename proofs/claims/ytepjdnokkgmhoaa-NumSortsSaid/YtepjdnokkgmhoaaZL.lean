/- NumSorts: the law's walk. -/
import Derived.Test.YtepjdnokkgmhoaaZK
namespace Go.Proofs.Ytepjdnokkgmhoaa
open Go.RowKit Go.Sort Go.Shelf
theorem gives_sees {w w' : World} {L : List Nat} {e : Ending} {n : Nat} (hn : L.length = n) (h : GivesF w L e w') : ∃ x c, e = .returned (.slice x n c) ∧ Hid (RowF w' x L) ∧ Hid (SeesF w' x n (fun i => L.getD i 0)) ∧ Hid (RowKit.Below w.heap.size w w') := by
  obtain ⟨x, c, he, ⟨base, _, ho⟩, hB⟩ := h
  refine ⟨x, c, by rw [he, hn], Lib.hid (rowF_of_own ho), Lib.hid ?_, Lib.hid hB⟩
  have := sees_of_row ho
  rwa [hn] at this
set_option maxRecDepth 100000 in
set_option maxHeartbeats 4000000 in
theorem sorts_any (x : Option Addr) (cap : Nat) (L : List Nat) (w : World) (hm : L.length ≤ 9223372036854775807) (hl : ∀ a ∈ L, a < 18446744073709551616) (hx : RowF w x L) :
    Calls Try.prog 8 #[.slice x L.length cap] w fun e w' => e = .returned (.bool true) ∧ RowKit.Below w.heap.size w w' := by
  obtain ⟨M, hM⟩ : ∃ M, L.take 60 = M := ⟨_, rfl⟩
  obtain ⟨n, hn⟩ : ∃ n, M.length = n := ⟨_, rfl⟩
  have hn60 : n ≤ 60 := by rw [← hn, ← hM, List.length_take]; omega
  have hMl : ∀ a ∈ M, a < 18446744073709551616 := fun a ha => hl a (List.mem_of_mem_take (by rw [hM]; exact ha))
  obtain ⟨S, hS⟩ : ∃ S, sortF M = S := ⟨_, rfl⟩
  have hSn : S.length = n := by rw [← hS, sortF_len, hn]
  have hSl : ∀ a ∈ S, a < 18446744073709551616 := by rw [← hS]; exact sortF_lt M hMl
  obtain ⟨T, hT⟩ : ∃ T, refF M n = T := ⟨_, rfl⟩
  have hTn : T.length = n := by rw [← hT, refF_len M n (by omega)]
  have hTl : ∀ a ∈ T, a < 18446744073709551616 := by rw [← hT]; exact fun a ha => hMl a (refF_mem M n (by omega) a ha)
  obtain ⟨U, hU⟩ : ∃ U, sortF S = U := ⟨_, rfl⟩
  have hUn : U.length = n := by rw [← hU, sortF_len, hSn]
  have hUl : ∀ a ∈ U, a < 18446744073709551616 := by rw [← hU]; exact sortF_lt S hSl
  have hget : ∀ {A : List Nat}, A.length = n → (∀ a ∈ A, a < 18446744073709551616) → ∀ i, i < n → A.getD i 0 < 18446744073709551616 := fun {A} h1 h2 i hi => h2 _ (by simp [show i < A.length by omega])
  have hk1 : ∀ i, i < n → keyN (S.getD i 0) = keyN (T.getD i 0) := fun i hi => same_keys (by rw [← hS, ← hT, keys_sortF M hMl, ← hn, keys_refF]) i (by omega)
  have hk2 : ∀ i, i < n → keyN (U.getD i 0) = keyN (S.getD i 0) := fun i hi => same_keys (by rw [← hU, ← hS, again_keys M hMl]) i (by omega)
  have hord : ∀ i, 0 < i → i < n → ¬ ordN (S.getD (i - 1) 0) (S.getD i 0) = 1 := fun i h0 hi => by rw [← hS]; exact ord_sorted M hMl i h0 (by rw [sortF_len]; omega)
  have H1 : Hid (Calls Try.prog 37 #[.slice x L.length cap] w fun e w' => ∃ y c, e = .returned (.slice y n c) ∧ Hid (RowF w' y M) ∧ Hid (SeesF w' y n (fun i => M.getD i 0)) ∧ Hid (RowKit.Below w.heap.size w w')) := Lib.hid ((tfew x cap L w hx hm).mono fun e w' h => gives_sees hn (by rw [hM] at h; exact h))
  have H2 : Hid (∀ y c W, RowF W y M → Calls Try.prog 38 #[.slice y n c] W fun e w' => ∃ y c, e = .returned (.slice y n c) ∧ Hid (RowF w' y S) ∧ Hid (SeesF w' y n (fun i => S.getD i 0)) ∧ Hid (RowKit.Below W.heap.size W w')) := Lib.hid (fun y c W h => by
    have := tsort y c M W h hMl (by omega)
    rw [hn, hS] at this
    exact this.mono fun e w' h => gives_sees hSn h)
  have H3 : Hid (∀ y c W, RowF W y M → Calls Try.prog 39 #[.slice y n c] W fun e w' => ∃ y c, e = .returned (.slice y n c) ∧ Hid (RowF w' y T) ∧ Hid (SeesF w' y n (fun i => T.getD i 0)) ∧ Hid (RowKit.Below W.heap.size W w')) := Lib.hid (fun y c W h => by
    have := rsort y c M W h hMl (by omega)
    rw [hn, hT] at this
    exact this.mono fun e w' h => gives_sees hTn h)
  have H4 : Hid (∀ y c W, RowF W y S → Calls Try.prog 38 #[.slice y n c] W fun e w' => ∃ y c, e = .returned (.slice y n c) ∧ Hid (RowF w' y U) ∧ Hid (SeesF w' y n (fun i => U.getD i 0)) ∧ Hid (RowKit.Below W.heap.size W w')) := Lib.hid (fun y c W h => by
    have := tsort y c S W h hSl (by omega)
    rw [hSn, hU] at this
    exact this.mono fun e w' h => gives_sees hUn h)
  have H5 : Hid (∀ y z c d W, SeesF W y n (fun i => S.getD i 0) → SeesF W z n (fun i => T.getD i 0) → Calls Try.prog 28 #[.slice y n c, .slice z n d] W fun e w' => e = .returned (.bool true) ∧ ∃ m, w' = W.drewN m) := Lib.hid (fun y z c d W h1 h2 => rsameAll y z n c d _ _ W (by omega) h1 h2 (hget hSn hSl) (hget hTn hTl) hk1)
  have H6 : Hid (∀ y z c d W, SeesF W y n (fun i => U.getD i 0) → SeesF W z n (fun i => S.getD i 0) → Calls Try.prog 28 #[.slice y n c, .slice z n d] W fun e w' => e = .returned (.bool true) ∧ ∃ m, w' = W.drewN m) := Lib.hid (fun y z c d W h1 h2 => rsameAll y z n c d _ _ W (by omega) h1 h2 (hget hUn hUl) (hget hSn hSl) hk2)
  have HORD := Lib.hid hord
  have HGS := Lib.hid (hget hSn hSl)
  clear hx hl hM hn hMl hS hSn hSl hT hTn hTl hU hUn hUl hget hk1 hk2 hord
  generalize L.length = nn at *
  clear hm
  go_enter Try.func8, Try.ntmps8
  go_wp2_with (first | (go_at_call 37; refine H1.out.mono ?_; rintro e w1 ⟨x1, c1, rfl, HR1, HS1, HB1⟩) | (go_at_call 38; refine (H2.out _ _ _ HR1.out).mono ?_; rintro e w2 ⟨x2, c2, rfl, HR2, HS2, HB2⟩; have HR1b := Lib.hid (HR1.out.keep HB2.out)) | (go_at_call 39; refine (H3.out _ _ _ HR1b.out).mono ?_; rintro e w3 ⟨x3, c3, rfl, HR3, HS3, HB3⟩; have HS2b := Lib.hid (HS2.out.keep HB3.out); have HR2b := Lib.hid (HR2.out.keep HB3.out)) | (go_at_call 28; refine (H5.out _ _ _ _ _ HS2b.out HS3.out).mono ?_; rintro e w4 ⟨rfl, m4, rfl⟩) | (go_at_call 12; refine (tawake _).mono ?_; rintro e w5 ⟨rfl, hB5⟩; have HB5 := Lib.hid hB5; clear hB5))
  have HS5 : Hid (SeesF w5 x2 n (fun i => S.getD i 0)) := Lib.hid ((HS2b.out.drewN (m := m4)).keep HB5.out)
  have HR5 : Hid (RowF w5 x2 S) := Lib.hid (RowF.keep (w := w3.drewN m4) (RowF.keep HR2b.out (below_drewN (RowKit.Below.refl _ _) m4)) HB5.out)
  have HB : Hid (RowKit.Below w.heap.size w w5) := Lib.hid (below_step (below_step (below_step HB1.out HB2.out) (below_drewN HB3.out m4)) HB5.out)
  clear HR1 HR1b HS1 HB1 HR2 HS2 HB2 HR3 HS3 HB3 HS2b HR2b HB5 H1 H2 H3 H5
  go_loopw [4] (fun vi wr => ∃ i : Nat, 1 ≤ i ∧ i ≤ n + 1 ∧ vi = .int .i64 (i : Int) ∧ Hid (∃ m, wr = w5.drewN m)) (fun vi _ => n + 1 - (intOf vi).toNat)
  case atStart => exact ⟨1, by omega, by omega, rfl, Lib.hid ⟨0, rfl⟩⟩
  case round =>
    obtain ⟨i, hi1, hin, rfl, HW⟩ := hrel
    by_cases hlt : i < n
    · have hltz : (i : Int) < (n : Int) := by omega
      obtain ⟨g, rfl, hc⟩ := HS5.out (by omega)
      obtain ⟨A, hA⟩ : ∃ A, A = S.getD (i - 1) 0 := ⟨_, rfl⟩
      obtain ⟨B, hB⟩ : ∃ B, B = S.getD i 0 := ⟨_, rfl⟩
      have hcA : wr.cell? ⟨g, i - 1, none⟩ = some (.float .f64 A) := by
        obtain ⟨m, rfl⟩ := HW.out
        have := hc (i - 1) (by omega)
        rw [hA]; simpa [go_sem] using this
      have hcB : wr.cell? ⟨g, i, none⟩ = some (.float .f64 B) := by
        obtain ⟨m, rfl⟩ := HW.out
        have := hc i hlt
        rw [hB]; simpa [go_sem] using this
      have HAL : Hid (A < 18446744073709551616) := Lib.hid (by rw [hA]; exact HGS.out _ (by omega))
      have HBL : Hid (B < 18446744073709551616) := Lib.hid (by rw [hB]; exact HGS.out _ hlt)
      have hne : (ordN A B == 1) = false := by
        have := HORD.out i (by omega) hlt
        rw [hA, hB]; exact beq_eq_false_iff_ne.2 this
      have hne2 : ¬ ordN A B = 1 := by simpa using hne
      have hT := fun W => torder A B HAL.out HBL.out W
      generalize ordN A B = D at hne hne2 hT
      have HT := Lib.hid hT
      clear hc hA hB hT
      go_wp2_with fail
      go_big_quiet (first | (go_at_call 33; exact quiet_sym (HT.out _)))
      go_wp2_with fail
      go_roundw
      case rel =>
        obtain ⟨m, rfl⟩ := HW.out
        exact ⟨i + 1, by omega, by omega, by go_num, Lib.hid ⟨m + nq, World.drewN_drewN _ _ _⟩⟩
      case measure => simp [intOf]; omega
    · have hltz : ¬ (i : Int) < (n : Int) := by omega
      have HRW : Hid (RowF wr x2 S ∧ SeesF wr x2 n (fun i => S.getD i 0) ∧ RowKit.Below w.heap.size w wr) := Lib.hid (by
        obtain ⟨m, rfl⟩ := HW.out
        exact ⟨RowF.keep HR5.out (below_drewN (RowKit.Below.refl _ _) m), HS5.out.drewN, below_drewN HB.out m⟩)
      clear HW HS5 HR5
      go_wp2_with (first | (go_at_call 38; refine (H4.out _ _ _ HRW.out.1).mono ?_; rintro e w6 ⟨x6, c6, rfl, HR6, HS6, HB6⟩; have HSk := Lib.hid (HRW.out.2.1.keep HB6.out)) | (go_at_call 28; refine (H6.out _ _ _ _ _ HS6.out HSk.out).mono ?_; rintro e w7 ⟨rfl, m7, rfl⟩))
      go_ret
      exact ⟨rfl, below_drewN (below_step HRW.out.2.2 HB6.out) _⟩
end Go.Proofs.Ytepjdnokkgmhoaa
