/- The library's sort at uint64, as a call of it finds and leaves a row of its own; the arm of no element. -/
import Derived.Test.YtepjdnokkgmhoaaZA
import Derived.Test.YtepjdnokkgmhoaaZE
import Derived.OwnWalk
namespace Go.Proofs.Ytepjdnokkgmhoaa
open Go.RowKit Go.Sort Go.Proofs
theorem uInsertion_nil (p : Option Addr) (cap : Nat) (w : World) : Calls Try.prog 58 #[.slice p 0 cap, .int .i64 0, .int .i64 0] w fun e w' => e = .returned (.tuple #[]) ∧ w' = w := by
  go_enter Try.func58, Try.ntmps58
  go_wp2
  refine wp_loop_rounds 1 ?_
  rw [rounds_succ]
  go_wp2
  go_end0
  exact ⟨rfl, rfl⟩
set_option maxRecDepth 100000 in
theorem uPdq_nil (p : Option Addr) (cap : Nat) (w : World) : Calls Try.prog 56 #[.slice p 0 cap, .int .i64 0, .int .i64 0, .int .i64 0] w fun e w' => e = .returned (.tuple #[]) ∧ w' = w := by
  go_enter Try.func56, Try.ntmps56
  go_wp2
  refine wp_loop_rounds 1 ?_
  rw [rounds_succ]
  go_wp2_with (first | (go_at_call 58; refine (uInsertion_nil p cap _).mono ?_; rintro e w' ⟨rfl, rfl⟩))
  refine bodyPost_ret (results_none rfl _ _ _) rfl ?_
  exact ⟨rfl, rfl⟩
set_option maxRecDepth 100000 in
theorem uSort_nil (p : Option Addr) (cap : Nat) (w : World) : Calls Try.prog 54 #[.slice p 0 cap] w fun e w' => e = .returned (.tuple #[]) ∧ w' = w := by
  have hL : ∀ W, Calls Try.prog 57 #[.int .u64 0] W fun e w' => e = .returned (.int .i64 0) ∧ w' = W := fun W => uLen 0 (by omega) W
  go_enter Try.func54, Try.ntmps54
  go_wp2_with (first
    | (go_at_call 57; refine (hL _).mono ?_; rintro e w' ⟨rfl, rfl⟩)
    | (go_at_call 56; refine (uPdq_nil p cap _).mono ?_; rintro e w' ⟨rfl, rfl⟩))
  go_end0
  exact ⟨rfl, rfl⟩
theorem pdqU (blk off cap : Nat) (d : Array Int) (w : World) (hH : Holds encU w blk off d) (hblk : blk < w.heap.size) (hsz : d.size < 4611686018427387904) : PdqU blk off cap d w := by
  have hl : bitsLen d.size < 4611686018427387904 := by have := (bitsLen_le_iff d.size 62).2 (by omega); omega
  exact uPdq (d.size + 1) blk off cap 0 d.size (bitsLen d.size) d w (by omega) hH hblk (by omega) (by omega) hsz hl (.inl rfl)
def uV (k : Nat) : Value := .int .u64 (k : Int)
def sortN (K : List Nat) : List Nat := K.mergeSort (fun x y => decide (x ≤ y))
def zs (K : List Nat) : List Int := K.map Int.ofNat
theorem sortN_len (K : List Nat) : (sortN K).length = K.length := List.length_mergeSort _
theorem sort_zs (K : List Nat) : Sort.sort ltInt (zs K).toArray = (zs (sortN K)).toArray := by
  have h := sortInt (zs K)
  have e : zs (sortN K) = (zs K).mergeSort (fun x y => decide (x ≤ y)) := by
    unfold zs sortN
    refine List.map_mergeSort fun a _ b _ => ?_
    simp
  rw [e, ← h]
/-- What sorting leaves of the world. -/
theorem heap_srt {w : World} {g n : Nat} {os : Array Obj} {cur : Array Value} {e : TypeId} {fr : Nat × Nat} (d : Array Int) (hb : w.heap[g]? = some (.cells cur e fr)) :
    (grow (putRow encU (Sort.ahead w n) g 0 d) os).heap[g]? = some (.cells (putCells encU 0 d cur) e fr) := by
  have hg : g < w.heap.size := (Array.getElem?_eq_some_iff.1 hb).1
  rw [heap_grow_old _ _ (by simpa using hg)]
  simp [putRow, mapBlock, Sort.ahead, Array.getElem?_modify, hb, onCells]
theorem grown_srt {w : World} {g n : Nat} {os : Array Obj} (d : Array Int) : w.grownBy (grow (putRow encU (Sort.ahead w n) g 0 d) os) (some g) := by
  refine ⟨rfl, rfl, rfl, by simp, fun k hk hne => ?_⟩
  rw [heap_grow_old _ _ (by simpa using hk)]
  have : g ≠ k := fun e => hne (by rw [e])
  simp [putRow, mapBlock, Sort.ahead, Array.getElem?_modify, this]
theorem take_srt (cur : Array Value) (T : List Int) (h : T.length ≤ cur.size) : (putCells encU 0 T.toArray cur).toList.take T.length = T.map encU := by
  apply List.ext_getElem?
  intro j
  by_cases hj : j < T.length
  · rw [List.getElem?_take_of_lt hj, Array.getElem?_toList]
    simp [putCells, hj, show j < cur.size by omega]
  · rw [List.getElem?_take_eq_none (by omega), List.getElem?_eq_none (by simp; omega)]
theorem zs_uV (K : List Nat) : (zs K).map encU = K.map uV := by simp [zs, uV]
theorem zs_len (K : List Nat) : (zs K).length = K.length := by simp [zs]
/-- slices.Sort at a row of keys of the call's own. -/
theorem uSortK {w : World} {base : Nat} {v : Value} {K : List Nat} (h : w.ownsRow base 44 1 v K.length (K.map uV)) (hK : K.length < 4611686018427387904) :
    Calls Try.prog 54 #[v] w fun e w' => e = .returned (.tuple #[]) ∧ w'.ownsRow base 44 1 v K.length ((sortN K).map uV) ∧ w.grownBy w' v.ownBlock := by
  rcases h.2 with ⟨rfl, h0⟩ | ⟨g, cap, cur, rfl, hg, hb, h1, h2, h3, h4⟩
  · have hn : K = [] := List.eq_nil_of_length_eq_zero h0
    subst hn
    refine (uSort_nil none 0 w).mono ?_
    rintro e w' ⟨rfl, rfl⟩
    exact ⟨rfl, by simpa [sortN] using h, World.grownBy.refl _ _⟩
  · have hgl : g < w.heap.size := (Array.getElem?_eq_some_iff.1 hb).1
    have hH : Holds encU w g 0 (zs K).toArray := by
      intro j hj
      have hj' : j < K.length := by simpa [zs] using hj
      refine ⟨?_, by simp [World.frozen?, hb]⟩
      have e1 : (cur.toList.take K.length)[j]? = (K.map uV)[j]? := by rw [← h4, Nat.mul_one]
      rw [List.getElem?_take_of_lt hj'] at e1
      simp only [World.cell?, hb, Nat.zero_add]
      simp only [Option.isSome_none, Bool.false_eq_true, if_false]
      rw [← Array.getElem?_toList, e1]
      simp [hj', uV, zs]
    have hs : (zs K).toArray.size = K.length := by simp [zs]
    have hc := uSort g 0 cap (zs K).toArray w (by rw [hs]; exact hK) (pdqU g 0 cap (zs K).toArray w hH hgl (by rw [hs]; exact hK))
    rw [hs, sort_zs] at hc
    refine hc.mono ?_
    rintro e w' ⟨rfl, n, os, rfl⟩
    refine ⟨rfl, ⟨by simp [sortN_len], .inr ⟨g, cap, _, rfl, hg, heap_srt _ hb, h1, h2, by simp [putCells, h3], ?_⟩⟩, grown_srt _⟩
    have := take_srt cur (zs (sortN K)) (by rw [zs_len, sortN_len]; omega)
    rw [zs_len, sortN_len, zs_uV] at this
    rw [Nat.mul_one]
    exact this
end Go.Proofs.Ytepjdnokkgmhoaa
