/- The places of a walk, in plain terms; walks of SameAll, begins, Of. -/
import Derived.Test.YtbaljpamhmbcjaaHW
namespace Go.Proofs.Ytbaljpamhmbcjaa
open Go.RowKit Go.Shelf
/-- The told places. -/
def tp (L : List Bs) (d bg : Bs) : List Nat := (List.range L.length).filter (toldAt L d bg)
theorem tp_mem {L : List Bs} {d bg : Bs} {j : Nat} : j ∈ tp L d bg ↔ j < L.length ∧ toldAt L d bg j = true := by simp [tp]
theorem tp_len (L : List Bs) (d bg : Bs) : (tp L d bg).length ≤ L.length := by
  have := List.length_filter_le (toldAt L d bg) (List.range L.length)
  simpa [tp] using this
theorem tp_mono {L : List Bs} {d bg : Bs} {i j : Nat} (hij : i < j) (hj : j < (tp L d bg).length) : (tp L d bg)[i]'(by omega) < (tp L d bg)[j] := by
  have h : (tp L d bg).Pairwise (· < ·) := List.Pairwise.filter _ List.pairwise_lt_range
  exact List.pairwise_iff_getElem.1 h i j (by omega) hj hij
theorem tp_le {L : List Bs} {d bg : Bs} {i j : Nat} (hi : i < (tp L d bg).length) (hj : j < (tp L d bg).length) (h : (tp L d bg)[i] < (tp L d bg)[j]) : i < j := by
  rcases Nat.lt_trichotomy i j with q | q | q
  · exact q
  · subst q; omega
  · have := tp_mono q hi; omega
theorem tp_get {L : List Bs} {d bg : Bs} {i : Nat} (hi : i < (tp L d bg).length) : (tp L d bg)[i] < L.length ∧ toldAt L d bg (tp L d bg)[i] = true := tp_mem.1 (List.getElem_mem hi)
/-- Where the next search begins. -/
def tpFrom (L : List Bs) (d bg : Bs) : Nat → Nat
  | 0 => 0
  | i + 1 => (tp L d bg).getD i 0 + 1
theorem getD_at {T : List Nat} {i : Nat} (hi : i < T.length) : T.getD i 0 = T[i] := by rw [List.getD_eq_getElem?_getD, List.getElem?_eq_getElem hi]; rfl
theorem tp_next {L : List Bs} {d bg : Bs} {i : Nat} (hi : i ≤ (tp L d bg).length) : nxU L d bg (tpFrom L d bg i) = (tp L d bg)[i]? := by
  by_cases h : i < (tp L d bg).length
  · rw [List.getElem?_eq_getElem h]
    obtain ⟨h1, h2⟩ := tp_get h
    refine nxU_some h1 h2 ?_ ?_
    · cases i with
      | zero => exact Nat.zero_le _
      | succ i =>
        have hm := tp_mono (Nat.lt_succ_self i) h
        simp only [Nat.succ_eq_add_one] at hm
        simp only [tpFrom]
        rw [getD_at (by omega)]
        omega
    · intro j hj hlt
      cases ht : toldAt L d bg j with
      | false => rfl
      | true =>
        obtain ⟨q, hq, e⟩ := List.getElem_of_mem (tp_mem.2 ⟨by omega, ht⟩)
        have h3 := tp_le hq h (by omega)
        cases i with
        | zero => omega
        | succ i =>
          simp only [tpFrom] at hj
          rw [getD_at (by omega)] at hj
          have h4 := tp_le (i := i) (j := q) (by omega) hq (by omega)
          omega
  · rw [List.getElem?_eq_none (by omega)]
    refine nxU_none (fun j hj hlt => ?_)
    cases ht : toldAt L d bg j with
    | false => rfl
    | true =>
      obtain ⟨q, hq, e⟩ := List.getElem_of_mem (tp_mem.2 ⟨hlt, ht⟩)
      cases i with
      | zero => omega
      | succ i =>
        simp only [tpFrom] at hj
        rw [getD_at (by omega)] at hj
        have h4 := tp_le (i := i) (j := q) (by omega) hq (by omega)
        omega
theorem tp_prev {L : List Bs} {d bg : Bs} {i : Nat} (hi : i + 1 < (tp L d bg).length) : nxD L d bg (tp L d bg)[i + 1] = some ((tp L d bg)[i]'(by omega)) := by
  obtain ⟨h1, h2⟩ := tp_get (L := L) (d := d) (bg := bg) (i := i) (by omega)
  refine nxD_some (tp_mono (Nat.lt_succ_self i) hi) h2 (fun j hj hlt => ?_)
  cases ht : toldAt L d bg j with
  | false => rfl
  | true =>
    obtain ⟨h3, _⟩ := tp_get hi
    obtain ⟨q, hq, e⟩ := List.getElem_of_mem (tp_mem.2 ⟨by omega, ht⟩)
    have h4 := tp_le (i := i) (j := q) (by omega) hq (by omega)
    have h5 := tp_le (i := q) (j := i + 1) hq hi (by omega)
    omega
theorem tp_first {L : List Bs} {d bg : Bs} (hi : 0 < (tp L d bg).length) : nxD L d bg (tp L d bg)[0] = none := by
  refine nxD_none (fun j hj => ?_)
  cases ht : toldAt L d bg j with
  | false => rfl
  | true =>
    obtain ⟨h3, _⟩ := tp_get hi
    obtain ⟨q, hq, e⟩ := List.getElem_of_mem (tp_mem.2 ⟨by omega, ht⟩)
    have h5 := tp_le (i := q) (j := 0) hq hi (by omega)
    omega
/-- The walk behind so many steps back. -/
def wkAt (L : List Bs) (d bg : Bs) : Nat → Wk
  | 0 => Wk.no
  | i + 1 => ⟨true, d, bg, ((tp L d bg).getD i 0 : Nat)⟩
theorem wkAt_ok {L : List Bs} {d bg : Bs} : ∀ {i : Nat}, i ≤ (tp L d bg).length → (wkAt L d bg i).Ok L
  | 0, _ => fun h => by cases h
  | i + 1, hi => fun _ => by
    have := (tp_get (L := L) (d := d) (bg := bg) (i := i) (by omega)).1
    unfold wkAt
    simp only
    rw [getD_at (by omega)]
    omega
theorem older_some {L : List Bs} {d bg : Bs} {i : Nat} (hi : i < (tp L d bg).length) : olderS L (wkAt L d bg i) d bg = (wkAt L d bg (i + 1), L.getD ((tp L d bg).getD i 0) [], true) := by
  have h1 := tp_next (L := L) (d := d) (bg := bg) (i := i) (by omega)
  rw [List.getElem?_eq_getElem hi] at h1
  rw [getD_at hi]
  unfold olderS
  cases i with
  | zero =>
    have e : (wkAt L d bg 0).on' d bg = ⟨true, d, bg, -1⟩ := rfl
    rw [e]
    simp only [tpFrom] at h1
    have e2 : ((-1 : Int) + 1).toNat = 0 := rfl
    rw [e2, h1]
    simp only [olderR, wkAt]
    rw [getD_at hi]
  | succ i =>
    have e : (wkAt L d bg (i + 1)).on' d bg = ⟨true, d, bg, ((tp L d bg).getD i 0 : Nat)⟩ := rfl
    rw [e]
    simp only [tpFrom] at h1
    have e2 : ((((tp L d bg).getD i 0 : Nat) : Int) + 1).toNat = (tp L d bg).getD i 0 + 1 := by omega
    rw [e2, h1]
    simp only [olderR, wkAt]
    rw [getD_at hi]
theorem older_none {L : List Bs} {d bg : Bs} {i : Nat} (hi : i = (tp L d bg).length) : olderS L (wkAt L d bg i) d bg = (wkAt L d bg i, [], false) := by
  have h1 := tp_next (L := L) (d := d) (bg := bg) (i := i) (by omega)
  rw [List.getElem?_eq_none (by omega)] at h1
  unfold olderS
  cases i with
  | zero =>
    have e : (wkAt L d bg 0).on' d bg = ⟨true, d, bg, -1⟩ := rfl
    rw [e]
    simp only [tpFrom] at h1
    have e2 : ((-1 : Int) + 1).toNat = 0 := rfl
    rw [e2, h1]
    rfl
  | succ i =>
    have e : (wkAt L d bg (i + 1)).on' d bg = ⟨true, d, bg, ((tp L d bg).getD i 0 : Nat)⟩ := rfl
    rw [e]
    simp only [tpFrom] at h1
    have e2 : ((((tp L d bg).getD i 0 : Nat) : Int) + 1).toNat = (tp L d bg).getD i 0 + 1 := by omega
    rw [e2, h1]
    rfl
theorem newer_some {L : List Bs} {d bg : Bs} {i : Nat} (hi : i + 1 < (tp L d bg).length) : newerS L (wkAt L d bg (i + 2)) = (wkAt L d bg (i + 1), L.getD ((tp L d bg).getD i 0) [], true) := by
  have h1 := tp_prev (L := L) (d := d) (bg := bg) hi
  unfold newerS
  have e : (wkAt L d bg (i + 2)) = ⟨true, d, bg, ((tp L d bg).getD (i + 1) 0 : Nat)⟩ := rfl
  rw [e]
  simp only [if_true, Int.toNat_natCast]
  rw [getD_at hi, h1]
  simp only [newerR, wkAt]
  rw [getD_at (by omega)]
theorem newer_draft {L : List Bs} {d bg : Bs} (hi : 0 < (tp L d bg).length) : newerS L (wkAt L d bg 1) = (Wk.no, d, true) := by
  have h1 := tp_first (L := L) (d := d) (bg := bg) hi
  unfold newerS
  have e : (wkAt L d bg 1) = ⟨true, d, bg, ((tp L d bg).getD 0 0 : Nat)⟩ := rfl
  rw [e]
  simp only [if_true, Int.toNat_natCast]
  rw [getD_at hi, h1]
  rfl
theorem newer_no (L : List Bs) : newerS L Wk.no = (Wk.no, [], false) := rfl
/-- A row of texts that may be read. -/
def SeesL (w : World) (x : Option Addr) (c : Nat) (L : List Bs) : Prop := L.length ≤ c ∧ L.length ≤ 9223372036854775807 ∧ (0 < L.length → ∃ g, x = some ⟨g, 0, none⟩ ∧ g < w.heap.size ∧ ∀ i, i < L.length → w.cell? ⟨g, i, none⟩ = some (.string (tx (L.getD i []))))
theorem RowL.sees {W : World} {x : Option Addr} {c : Nat} {L : List Bs} (h : RowL W x c L) (hL : L.length ≤ 1000) : SeesL W x c L := ⟨h.cap, by omega, fun hp => by
  obtain ⟨g, h1, h2, _, h4⟩ := h.get 0 hp
  exact ⟨g, h1, h2, h4⟩⟩
theorem SeesL.below {W W' : World} {x : Option Addr} {c : Nat} {L : List Bs} (h : SeesL W x c L) (hB : Below W.heap.size W W') : SeesL W' x c L := ⟨h.1, h.2.1, fun hp => by
  obtain ⟨g, h1, h2, h3⟩ := h.2.2 hp
  exact ⟨g, h1, Nat.lt_of_lt_of_le h2 hB.size, fun i hi => (hB.cell (p := ⟨g, i, none⟩) h2).trans (h3 i hi)⟩⟩
set_option maxHeartbeats 1000000 in
theorem wsame (x y : Option Addr) (c d : Nat) (L : List Bs) (w : World) (hx : SeesL w x c L) (hy : SeesL w y d L) : Calls Try.prog 13 #[.slice x L.length c, .slice y L.length d] w fun e w' => e = .returned (.bool true) ∧ Below w.heap.size w w' := by
  have HX := Lib.hid hx
  have HY := Lib.hid hy
  have hm := hx.2.1
  obtain ⟨n, hn⟩ : ∃ n, n = L.length := ⟨_, rfl⟩
  rw [← hn] at hm ⊢
  have HN := Lib.hid hn
  clear hx hy hn
  go_enter Try.func13, Try.ntmps13
  go_wp2
  go_loopw [5] (fun i wr => ∃ k : Nat, k ≤ n ∧ i = .int .i64 (k : Int) ∧ Hid (∃ m, wr = w.drewN m)) (fun i _ => n - (intOf i).toNat)
  case atStart => exact ⟨0, by omega, rfl, Lib.hid ⟨0, rfl⟩⟩
  case round =>
    obtain ⟨k, hk, rfl, HW⟩ := hrel
    by_cases hlt : k < n
    · obtain ⟨g, rfl, _, hg⟩ := HX.out.2.2 (by have := HN.out; omega)
      obtain ⟨g2, rfl, _, hg2⟩ := HY.out.2.2 (by have := HN.out; omega)
      have ce : wr.cell? ⟨g, k, none⟩ = some (.string (tx (L.getD k []))) := by
        obtain ⟨m, rfl⟩ := HW.out
        have := hg k (by have := HN.out; omega)
        simpa [go_sem] using this
      have ce2 : wr.cell? ⟨g2, k, none⟩ = some (.string (tx (L.getD k []))) := by
        obtain ⟨m, rfl⟩ := HW.out
        have := hg2 k (by have := HN.out; omega)
        simpa [go_sem] using this
      obtain ⟨X, hX⟩ : ∃ X, X = tx (L.getD k []) := ⟨_, rfl⟩
      rw [← hX] at ce ce2
      have i1 : (0 : Int) ≤ (k : Int) := by omega
      have i2 : (k : Int) < (n : Int) := by omega
      clear hg hg2 hX
      go_wp2
      go_quiet (fail)
      go_wp2
      go_roundw
      case rel =>
        obtain ⟨m, rfl⟩ := HW.out
        exact ⟨k + 1, by omega, by go_num, Lib.hid ⟨m + nq, World.drewN_drewN _ _ _⟩⟩
      case measure => simp [intOf]; omega
    · go_wp2
      go_ret
      obtain ⟨m, rfl⟩ := HW.out
      exact ⟨rfl, below_drewN (Below.refl _ _) m⟩
theorem wbegins (l p : Bs) (w : World) : Calls Try.prog 31 #[.string (tx l), .string (tx p)] w fun e w' => e = .returned (.bool (Lib.hasPrefix l p)) ∧ w = w' := by
  have hr := Lib.hasPrefix_raw (tx l) (tx p)
  have e1 : (tx l).data.toList = l := rfl
  have e2 : (tx p).data.toList = p := rfl
  rw [e1, e2] at hr
  rw [← hr]
  obtain ⟨T, hT⟩ : ∃ T, T = tx l := ⟨_, rfl⟩
  obtain ⟨U, hU⟩ : ∃ T, T = tx p := ⟨_, rfl⟩
  rw [← hT, ← hU]
  clear hT hU hr e1 e2
  by_cases h : U.size ≤ T.size
  · have i1 : (U.size : Int) ≤ (T.size : Int) := by omega
    have hd : decide (U.size ≤ T.size) = true := by simpa using h
    go_enter Try.func31, Try.ntmps31
    go_wp2
    go_ret
    exact ⟨by rw [hd, Bool.true_and]; rfl, rfl⟩
  · have i1 : ¬ (U.size : Int) ≤ (T.size : Int) := by omega
    have hd : decide (U.size ≤ T.size) = false := by simpa using h
    go_enter Try.func31, Try.ntmps31
    go_wp2
    go_ret
    exact ⟨rfl, rfl⟩
theorem wOfR (l draft beg : Bs) (w : World) : Calls Try.prog 12 #[.string (tx l), .string (tx draft), .string (tx beg)] w fun e w' => e = .returned (.bool (toldB l draft beg)) ∧ w = w' := by
  have HB := Lib.hid (wbegins l beg w)
  have hq : ((tx l).toList == (tx draft).toList) = decide (l = draft) := by
    rw [beq_bytes, decide_eq_decide]
    exact ⟨tx_inj, fun h => by rw [h]⟩
  have HV := Lib.hid (show toldB l draft beg = (Lib.hasPrefix l beg && !decide (l = draft)) from rfl)
  obtain ⟨V, hV⟩ : ∃ V, V = toldB l draft beg := ⟨_, rfl⟩
  obtain ⟨H, hH⟩ : ∃ V, V = Lib.hasPrefix l beg := ⟨_, rfl⟩
  obtain ⟨E, hE⟩ : ∃ V, V = decide (l = draft) := ⟨_, rfl⟩
  rw [← hV, ← hH, ← hE] at HV
  rw [← hH] at HB
  rw [← hE] at hq
  rw [← hV]
  clear hV hH hE
  obtain ⟨T, hT⟩ : ∃ T, T = tx l := ⟨_, rfl⟩
  obtain ⟨S, hS⟩ : ∃ T, T = tx draft := ⟨_, rfl⟩
  obtain ⟨U, hU⟩ : ∃ T, T = tx beg := ⟨_, rfl⟩
  rw [← hT] at hq HB ⊢
  rw [← hS] at hq ⊢
  rw [← hU] at HB ⊢
  clear hT hS hU
  cases H
  · have HR : Hid (V = false) := Lib.hid (by rw [HV.out]; rfl)
    clear HV
    go_enter Try.func12, Try.ntmps12
    go_wp2_with (first | (go_at_call 31; (with_reducible refine HB.out.mono ?_); rintro e w' ⟨rfl, rfl⟩))
    go_ret
    exact ⟨ret_bool HR.out.symm, rfl⟩
  · have HR : Hid (V = !E) := Lib.hid (by rw [HV.out]; simp)
    clear HV
    go_enter Try.func12, Try.ntmps12
    go_wp2_with (first | (go_at_call 31; (with_reducible refine HB.out.mono ?_); rintro e w' ⟨rfl, rfl⟩))
    go_ret
    exact ⟨by rw [HR.out]; rfl, rfl⟩
end Go.Proofs.Ytbaljpamhmbcjaa
