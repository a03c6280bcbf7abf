/- Plain words of the reference's layer, for a seat without the references. -/
import Derived.Test.YtdehjofmangmbaaHD
namespace Go.Proofs.Ytdehjofmangmbaa
open Go.RowKit Go.Shelf
theorem shp_2 {c : Nat} (h : 194 ≤ c) (h2 : c < 224) : shp c = ⟨2, 128, 191, (c % 32 : Nat)⟩ := by unfold shp; rw [if_neg (by omega), if_neg (by omega), if_pos h2]
/-- The bounds of the second byte. -/
def lo3 (c : Nat) : Nat := if c = 224 then 160 else 128
def hi3 (c : Nat) : Nat := if c = 237 then 159 else 191
def lo4 (c : Nat) : Nat := if c = 240 then 144 else 128
def hi4 (c : Nat) : Nat := if c = 244 then 143 else 191
theorem shp_3 {c : Nat} (h : 224 ≤ c) (h2 : c < 240) : shp c = ⟨3, lo3 c, hi3 c, (c : Int) - 224⟩ := by
  have hall : ∀ c : Fin 240, 224 ≤ c.1 → shp c.1 = ⟨3, lo3 c.1, hi3 c.1, (c.1 : Int) - 224⟩ := by decide +kernel
  exact hall ⟨c, h2⟩ h
theorem shp_4 {c : Nat} (h : 240 ≤ c) (h2 : c < 245) : shp c = ⟨4, lo4 c, hi4 c, (c : Int) - 240⟩ := by
  have hall : ∀ c : Fin 245, 240 ≤ c.1 → shp c.1 = ⟨4, lo4 c.1, hi4 c.1, (c.1 : Int) - 240⟩ := by decide +kernel
  exact hall ⟨c, h2⟩ h
theorem tl_step (k lo hi : Nat) (c : UInt8) (t : Bs) (r : Int) : tl (k + 1) lo hi (c :: t) r = if decide (lo ≤ c.toNat ∧ c.toNat ≤ hi) = true then tl k 128 191 t (r * 64 + (c.toNat % 64 : Nat)) else some none := by
  show (if c.toNat < lo ∨ hi < c.toNat then some none else tl k 128 191 t (r * 64 + (c.toNat % 64 : Nat))) = _
  by_cases h : lo ≤ c.toNat ∧ c.toNat ≤ hi
  · rw [if_neg (by omega), decide_eq_true h, if_pos rfl]
  · rw [if_pos (by omega), decide_eq_false h, if_neg (by simp)]
theorem nxt_of {c : UInt8} {t : Bs} {m lo hi : Nat} {r : Int} (h : shp c.toNat = ⟨m, lo, hi, r⟩) (hm : m ≠ 0) : nxt (c :: t) = nxtT m (tl (m - 1) lo hi t r) := by
  show (if (shp c.toNat).m = 0 then (65533, 1, false) else nxtT (shp c.toNat).m (tl ((shp c.toNat).m - 1) (shp c.toNat).lo (shp c.toNat).hi t (shp c.toNat).r)) = _
  rw [h, if_neg hm]
theorem info_parts3 : ∃ i0, Try.prog.info? 3 = some i0 ∧ i0.zero = some (.int .i64 0) ∧ i0.size = 1 ∧ i0.bytes = 8 :=
  info_parts (show (Try.prog.info? 3).map (fun i => (i.zero, i.size, i.bytes)) = some (some (.int .i64 0), 1, 8) by kernel_rfl)
theorem own_cells {w : World} {n0 : Nat} {e : TypeId} {z n : Nat} {v : Value} {xs : List Value} (h : w.ownsRow n0 e z v n xs) : ∀ j, v.ownBlock = some j → ∃ cur, w.heap[j]? = some (.cells cur e (0, 0)) := fun j hj => by
  rcases h.2 with ⟨hv, _⟩ | ⟨g, cap, cur, hv, _, hg, _⟩
  · rw [hv] at hj; cases hj
  · rw [hv] at hj; cases hj; exact ⟨cur, hg⟩
theorem own_apart {w : World} {n0 n0' : Nat} {e e' : TypeId} {z n z' n' : Nat} {v v' : Value} {xs xs' : List Value} (h : w.ownsRow n0 e z v n xs) (h' : w.ownsRow n0' e' z' v' n' xs') (hne : e ≠ e') : ∀ j, v.ownBlock = some j → v'.ownBlock = some j → False := fun j a b => by
  obtain ⟨c, hc⟩ := own_cells h j a
  obtain ⟨c', hc'⟩ := own_cells h' j b
  rw [hc] at hc'
  cases hc'
  exact hne rfl
theorem own_kept {w w' : World} {n0 : Nat} {e : TypeId} {z n : Nat} {v : Value} {xs : List Value} {row : Option Nat} (h : w.ownsRow n0 e z v n xs) (hg : w.grownBy w' row) (hne : ∀ j, row = some j → v.ownBlock = some j → False) : w'.ownsRow n0 e z v n xs :=
  row_kept h (fun j hj => hg.block j (h.lt j hj).2 (fun e => hne j e.symm hj))
theorem tx_sizeK (l : Bs) : (tx l).size = l.length := by simp [tx, ByteArray.size]
theorem getD_lenK {L : List Bs} {n : Nat} (h : ∀ l ∈ L, l.length ≤ n) (i : Nat) : (L.getD i []).length ≤ n := by
  rw [List.getD_eq_getElem?_getD]
  rcases Nat.lt_or_ge i L.length with h2 | h2
  · rw [List.getElem?_eq_getElem h2]; exact h _ (List.getElem_mem h2)
  · rw [List.getElem?_eq_none h2]; exact Nat.zero_le n
theorem rowK_get {W : World} {base : Nat} {x : Option Addr} {c : Nat} {L : List Bs} (h : W.ownsRow base 9 1 (.slice x L.length c) L.length (strs L)) (j : Nat) (hj : j < L.length) : ∃ g, x = some ⟨g, 0, none⟩ ∧ g < W.heap.size ∧ L.length ≤ c ∧ ∀ i, i < L.length → W.cell? ⟨g, i, none⟩ = some (.string (tx (L.getD i []))) := by
  have hcl := fun g (hg : (Value.slice x L.length c).ownBlock = some g) => h.cells hg
  rcases h.2 with ⟨hv, h0⟩ | ⟨g, cap, cur, hv, _, hg, hnc, _⟩
  · omega
  · obtain ⟨rfl, rfl⟩ : x = some ⟨g, 0, none⟩ ∧ c = cap := by simpa using hv
    refine ⟨g, rfl, (Array.getElem?_eq_some_iff.1 hg).1, hnc, fun i hi => ?_⟩
    have := hcl g rfl i (.string (tx (L.getD i []))) (by rw [strs, List.getElem?_map, List.getElem?_eq_getElem hi, List.getD_eq_getElem?_getD, List.getElem?_eq_getElem hi]; rfl)
    have ha : (⟨g, 0, none⟩ : Addr).add i = ⟨g, i, none⟩ := by by_cases e : i = 0 <;> simp [Addr.add, e]
    rw [ha] at this
    exact this
theorem strs_app (A B : List Bs) : strs (A ++ B) = strs A ++ strs B := by simp [strs]
def outR (rs : List Int) : List Bs := endS (cutF rs)
def lastI (L : List Bs) : Bs := L.getD (L.length - 1) []
theorem cutF_wf (rs : List Int) : (cutF rs).2.2 = false → (cutF rs).1 = [] := by
  have : ∀ (rs : List Int) (s : List Bs × Bs × Bool), (s.2.2 = false → s.1 = []) → ((rs.foldl cutR s).2.2 = false → (rs.foldl cutR s).1 = []) := by
    intro rs
    induction rs with
    | nil => intro s h; exact h
    | cons r rs ih =>
      intro s h
      refine ih _ ?_
      unfold cutR addS
      split
      · exact h
      · split
        · intro q; cases q
        · split
          · intro q; cases q
          · exact h
  exact this rs _ (fun _ => rfl)
theorem outR_snoc (rs : List Int) (r : Int) : outR (rs ++ [r]) = if 0 < ofW r then outR rs ++ [rb r] else if isMk r = true ∧ outR rs ≠ [] ∧ (lastI (outR rs)).length + (rb r).length ≤ 64 then (outR rs).set ((outR rs).length - 1) (lastI (outR rs) ++ rb r) else outR rs := by
  unfold outR
  rw [cutF_snoc]
  have hwf := cutF_wf rs
  revert hwf
  generalize cutF rs = s
  intro hwf
  obtain ⟨D, N, o⟩ := s
  have hwf : o = false → D = [] := hwf
  unfold cutR
  by_cases hc : ctl r = true
  · have ho : ofW r = 0 := by unfold ofW; rw [if_pos (.inr (.inl hc))]
    have hm : isMk r = false := by unfold isMk; rw [hc]; simp
    rw [if_pos hc, if_neg (by omega), if_neg (by rw [hm]; simp)]
  · rw [if_neg hc]
    unfold addS
    by_cases h0 : 0 < ofW r
    · rw [if_pos h0, if_pos h0]
      cases o
      · rw [hwf rfl]; rfl
      · simp [endS]
    · rw [if_neg h0, if_neg h0]
      cases o
      · rw [hwf rfl]
        simp [endS]
      · have e1 : endS (D, N, true) = D ++ [N] := rfl
        have e2 : lastI (D ++ [N]) = N := by simp [lastI, List.getD_eq_getElem?_getD]
        rw [e1, e2]
        by_cases hk : isMk r = true ∧ N.length + (rb r).length ≤ 64
        · rw [if_pos ⟨rfl, hk.1, hk.2⟩, if_pos ⟨hk.1, by simp, hk.2⟩]
          simp [endS]
        · rw [if_neg (fun q => hk ⟨q.2.1, q.2.2⟩), if_neg (fun q => hk ⟨q.1, q.2.2⟩)]
          rfl
theorem outR_len (rs : List Int) : (outR rs).length ≤ rs.length + 1 := by
  have := (cutF_len rs).1
  unfold outR endS
  split
  · simp; omega
  · omega
theorem outR_short (rs : List Int) : ∀ c ∈ outR rs, c.length ≤ 64 := by
  have h : ∀ (rs : List Int) (s : List Bs × Bs × Bool), Short s → Short (rs.foldl cutR s) := by
    intro rs
    induction rs with
    | nil => intro s h; exact h
    | cons r rs ih => intro s h; exact ih _ (cutR_short s r h)
  obtain ⟨h1, h2⟩ := h rs ([], [], false) ⟨by simp, by simp⟩
  unfold outR endS cutF
  intro c hc
  split at hc
  · rcases List.mem_append.1 hc with q | q
    · exact h1 c q
    · simp at q; rw [q]; exact h2
  · exact h1 c hc
theorem cutS_out (l : Bs) : cutS l = outR ((itm l).map (·.2)) := rfl
theorem row_set {w : World} {base n cap : Nat} {x : Option Addr} {g : Nat} {xs : List Value} (h : w.ownsRow base 9 1 (.slice x n cap) n xs) (hx : x = some ⟨g, 0, none⟩) (k : Nat) (hk : k < n) (v : Value) : (w.setCell ⟨g, k, none⟩ v).ownsRow base 9 1 (.slice x n cap) n (xs.set k v) := by
  have h1 := h.1
  refine ⟨by rw [List.length_set]; exact h1, ?_⟩
  rcases h.2 with ⟨_, h0⟩ | ⟨g', cap', cur, hv, hb, hg, hnc, hcm, hcs, htake⟩
  · omega
  · obtain ⟨e1, rfl⟩ : x = some ⟨g', 0, none⟩ ∧ cap = cap' := by simpa using hv
    rw [hx] at e1
    obtain rfl : g = g' := by simpa using e1
    refine .inr ⟨g, cap, cur.setIfInBounds k v, by rw [hx], hb, set_block hg v, hnc, hcm, by simpa using hcs, ?_⟩
    rw [← htake]
    rw [Array.toList_setIfInBounds, List.take_set]
/-- What Cut's loop keeps. -/
theorem flatten_take (L : List Bs) (j : Nat) (hj : j < L.length) : (L.take (j + 1)).flatten = (L.take j).flatten ++ L.getD j [] := by
  rw [List.take_succ_eq_append_getElem hj, List.flatten_append, List.getD_eq_getElem?_getD, List.getElem?_eq_getElem hj]
  simp
end Go.Proofs.Ytdehjofmangmbaa
