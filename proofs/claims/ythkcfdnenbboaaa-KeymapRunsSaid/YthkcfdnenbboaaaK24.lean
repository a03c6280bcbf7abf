/- Walk: the names of all keys that are bound, rising. -/
import Derived.Test.YthkcfdnenbboaaaK22
import Derived.Maps.RangeWalk
import Derived.Maps.Range
import Derived.Sort.KeysCollected
import Derived.Sort.OwnSorted
import Derived.Laws.AppendOwn
namespace Go.Proofs.Ythkcfdnenbboaaa
open Go.RowKit Go.Shelf Go.Maps Go.Sort Go.ChangeMaps
theorem Try.info9 : (Try.prog.info? 9).map (fun i => (i.zero, i.size, i.bytes)) = some (some (.string ⟨#[]⟩), 1, 16) := by kernel_rfl
/-- Names that are bound, each once, rising. -/
def NamesOf (f : Bnd) (ss : List (List UInt8)) : Prop := ss.Pairwise (fun x y => x < y) ∧ ∀ x, x ∈ ss ↔ f.has (mkS x) = true
theorem names_of {ss : List (List UInt8)} {f : Bnd} (hn : ss.Nodup) (hm : ∀ x, x ∈ ss ↔ f.has (mkS x) = true) : NamesOf f (ss.mergeSort fun x y => decide (x ≤ y)) := by
  have tr : ∀ a b c : List UInt8, leB a b = true → leB b c = true → leB a c = true := fun a b c h1 h2 => by simp only [leB, decide_eq_true_eq] at *; exact List.le_trans h1 h2
  have tot : ∀ a b : List UInt8, (leB a b || leB b a) = true := fun a b => by simp only [leB, Bool.or_eq_true, decide_eq_true_eq]; exact List.le_total a b
  have hp := List.mergeSort_perm ss leB
  have h1 : (ss.mergeSort leB).Pairwise (fun a b => leB a b = true) := List.pairwise_mergeSort tr tot ss
  have h2 : (ss.mergeSort leB).Nodup := hp.symm.nodup hn
  refine ⟨?_, fun x => by rw [← hm x]; exact hp.mem_iff⟩
  refine (h1.and h2).imp fun {a b} h => ?_
  simp only [leB, decide_eq_true_eq] at h
  rcases List.le_total b a with q | q
  · exact absurd (List.le_antisymm h.1 q) h.2
  · by_cases r : a < b
    · exact r
    · exact absurd (List.le_antisymm h.1 (List.not_lt.1 r)) h.2
set_option maxRecDepth 100000 in
set_option maxHeartbeats 2000000 in
theorem wnames {w : World} {b mb m c : Nat} {f : Bnd} (h : MapI w b mb m c f) (hm : m ≤ 100000) : Calls Try.prog 60 #[.pointer (some ⟨b, 0, none⟩)] w fun e w' => ∃ v ss, e = .returned v ∧ NamesOf f ss ∧ w'.ownsRow w.heap.size 9 1 v ss.length (ss.map encStr) ∧ Below w.heap.size w w' := by
  obtain ⟨i0, hi, hz0, hz1, hz2⟩ := info_parts Try.info9
  have hcell := h.get.1
  have HC := Lib.hid hcell
  have hbl := h.get.2.2.1
  obtain ⟨D, n, d1, hown, d3, d4, d5⟩ := h.map
  have HD4 := Lib.hid d4
  have hcm := h.map.le
  have hsz : Maps.size D ≤ 100000 := by omega
  clear d5 d4 d3 h
  go_enter Try.func60, Try.ntmps60
  go_wp2_with (first
    | (go_at_call 36; refine (wmade _ _ _ HC.out).mono ?_; rintro e w' ⟨rfl, rfl⟩)
    | (at_range; refine wpList_range_own _ rfl _ 66 rfl 9 30 Try.law9 Try.underlying66 _ mb n _ rfl hown ?_; intro w0 hrg0 hg0 hs0)
    | go_in)
  go_frame
  have HH := Lib.hid hs0
  clear hs0
  go_loopw [3] (fun v wr => ∃ (left : Lit → Bool) (cnt : Nat) (ss : List (List UInt8)), wr.ranges Try.prog 9 (plainElem Try.prog 30) mb w.heap.size n D left cnt ∧ ss.length + cnt ≤ Maps.size D ∧
      wr.ownsRow w.heap.size 9 1 v ss.length (ss.map encStr) ∧ Collected D left ss ∧ Below w.heap.size w wr)
    (fun _ wr => wr.rangeLeft mb w.heap.size)
  case atStart =>
    exact ⟨_, _, [], hrg0, by simp, ⟨rfl, .inl ⟨rfl, rfl⟩⟩, Collected.start D, (Below.refl _ _).grown hg0 (Nat.le_refl _) (fun j hj => by cases hj)⟩
  case round =>
    obtain ⟨left, cnt, ss, hrg, hcs, hrow, hC, hnx⟩ := hrel
    go_wp2_with (first
      | (at_next; refine wpList_next_ranges _ rfl _ rfl 9 Try.law9 (plainElem Try.prog 30) encStr (Value.int .i64) (fun key kl hk => by obtain ⟨x, hx, _⟩ := Maps.keyOf_str Try.underlying9 hk; exact ⟨x, hx⟩) (fun v y hv => by obtain ⟨c, rfl, _⟩ := plainElem_int_inv Try.underlying30 hv; exact ⟨c, rfl⟩) mb w.heap.size n _ _ _ rfl hrg ?_ ?_)
      | go_in)
    · intro hc0 hl0
      have hmem : ∀ x, x ∈ ss ↔ f.has (mkS x) = true := fun x => by
        rw [hC.2 x, ← HD4.out (mkS x), hl0]
        simp [keyL, mkS]
      have HNM := Lib.hid (names_of hC.1 hmem)
      have HNX := Lib.hid hnx
      have HROW := Lib.hid hrow
      have hlen := HROW.out.2
      rcases hrow.2 with ⟨rfl, h0⟩ | ⟨g, cap, cur, rfl, hbase, hb, h1, h2, h3, h4⟩
      · have hs0 : ss = [] := by cases ss with | nil => rfl | cons a l => simp at h0
        subst hs0
        clear hlen hrow hrg hC hnx hmem h0
        go_wp2_with (go_at_call 63; refine (Try.slices_Sort_string_none none 0 _).mono ?_; rintro e w' ⟨rfl, rfl⟩)
        go_ret
        exact ⟨_, [], rfl, by have := HNM.out; simpa using this, HROW.out, HNX.out⟩
      · have hH : Holds encStr wr g 0 ss.toArray := holds_of_block hb (by simpa using h4)
        have hgl : g < wr.heap.size := (Array.getElem?_eq_some_iff.1 hb).1
        have hc := Lib.hid (Try.slices_Sort_string g 0 cap ss wr hH hgl (by omega))
        have HRW := Lib.hid (fun (n : Nat) (os : Array Obj) => ownsRow_sorted (n := n) (os := os) (ts := ss.mergeSort fun x y => decide (x ≤ y)) (by simp) hbase hb h1 h2 h3)
        have hbs := Lib.hid hbase
        clear hlen hrow hrg hC hnx hmem hb h1 h2 h3 h4 hH hgl hbase
        go_wp2_with (first | (go_at_call 63; fail))
        go_at_call 63
        refine hc.out.mono ?_
        rintro e w' ⟨rfl, nn, os, rfl⟩
        go_wp2
        go_ret
        refine ⟨_, _, rfl, HNM.out, ?_, HNX.out.grown (grownBy_sorted _) HNX.out.size (fun j hj => by cases hj; exact hbs.out)⟩
        have := HRW.out nn os
        simpa using this
    · intro x c kl yd yp w2 cnt2 hkey hlk hv hat hrg2 hlt hg2 hs2 hen
      obtain ⟨x', ex, rfl, _⟩ := Maps.keyOf_str Try.underlying9 hkey
      obtain rfl : x = x' := encStr_inj ex
      have hrow2 := hrow.kept hg2 (Or.inr (row_ne_iter hrow hrg).symm)
      clear hs2
      go_wp2_with (first
        | (at_builtin; refine wpList_append_own _ rfl _ _ 62 rfl w.heap.size 9 i0 (.string ⟨#[]⟩) 1 16 Try.underlying62 hi hz0 hz1 hz2 rfl (by decide) _ _ _ rfl (hrow2.alloc _) ⟨w2.heap.size, 0, none⟩ 1 1 [encStr x] rfl rfl (cell_one_new _ _ _) (by simp [Value.oneCell', encStr]) (by unfold maxLen at *; omega) (by omega) (by have := hnx.size; have := hg2.size; simp; omega) ?_; intro v' w3 hown' hg3 hnil3; go_frame)
        | go_in)
      have hrg3 := (hrg2.alloc _).kept hg3 (row_ne_low hrow2 hbl) (row_ne_iter hrow2 hrg2)
      go_roundw
      case rel =>
        refine ⟨_, cnt2, ss ++ [x], hrg3, by simp; omega, by simpa using hown', hC.step hlk hat, ?_⟩
        exact ((hnx.grown hg2 hnx.size (fun j hj => by cases hj; exact Nat.le_refl _)).alloc (by have := hnx.size; have := hg2.size; omega) _).grown hg3 (by have := hnx.size; have := hg2.size; simp; omega) (fun j hj => (hrow2.lt j hj).1)
      case measure => rw [hrg3.left_eq, hrg.left_eq]; exact hlt
end Go.Proofs.Ythkcfdnenbboaaa
