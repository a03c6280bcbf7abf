/- Walk: Print of the reference. -/
import Derived.Test.YtlhfdpeidlbomaaDoorTK
namespace Go.Proofs.YtlhfdpeidlbomaaDoor
open Go.RowKit Go.Shelf
/-- A block that holds the reference's styles. -/
structure RLat (w : World) (b : Nat) (ys : List Sty) : Prop where
  blk : w.heap[b]? = some (.cells (flatS ys).toArray 23 (0, 0))
  len : ys.length = 10
theorem RLat.lt {w : World} {b : Nat} {ys : List Sty} (h : RLat w b ys) : b < w.heap.size := (Array.getElem?_eq_some_iff.1 h.blk).1
theorem RLat.frozen {w : World} {b : Nat} {ys : List Sty} (h : RLat w b ys) (o : Nat) : w.frozen? ⟨b, o, none⟩ = false := by have := h.blk; simp [World.frozen?, this]
theorem RLat.cellJ {w : World} {b : Nat} {ys : List Sty} (h : RLat w b ys) (k : Nat) (hk : k < 10) (j : Nat) (hj : j < 5) : w.cell? ⟨b, k * 5 + j, none⟩ = (styL (nthY ys k))[j]? := by
  have h1 := h.blk
  have h2 := h.len
  have e : ((flatS ys).toArray)[k * 5 + j]? = (styL (nthY ys k))[j]? := by
    rw [List.getElem?_toArray, flatS_get ys k (by omega) j hj]
  simpa [World.cell?, h1] using e
theorem RLat.get {w : World} {b : Nat} {ys : List Sty} (h : RLat w b ys) (k : Nat) (hk : k < 10) :
    w.cell? ⟨b, k * 5, none⟩ = some (.bool (nthY ys k).b) ∧ w.cell? ⟨b, k * 5 + 1, none⟩ = some (.bool (nthY ys k).u) ∧ w.cell? ⟨b, k * 5 + 2, none⟩ = some (.bool (nthY ys k).i) ∧ w.cell? ⟨b, k * 5 + 3, none⟩ = some (.int .i64 (nthY ys k).f) ∧ w.cell? ⟨b, k * 5 + 4, none⟩ = some (.int .i64 (nthY ys k).g) :=
  ⟨h.cellJ k hk 0 (by omega), h.cellJ k hk 1 (by omega), h.cellJ k hk 2 (by omega), h.cellJ k hk 3 (by omega), h.cellJ k hk 4 (by omega)⟩
theorem RLat.kept {w w' : World} {b n : Nat} {ys : List Sty} (h : RLat w b ys) (hb : b < n) (hB : Below n w w') : RLat w' b ys := ⟨(hB.block b hb).trans h.blk, h.len⟩
theorem RLat.keptC {A B : World} {bt : Nat} {ys : List Sty} (h : RLat A bt ys) (hk : CellsKept A B) : RLat B bt ys := ⟨(hk.2 bt _ h.blk rfl).trans h.blk, h.len⟩
/-- The state of the reference's Print. -/
structure QS (w : World) (g p : Nat) (ys : List Sty) (W : World) : Prop where
  rl : RLat W g ys
  nm : W.heap[p]? = some (.cells namesA 9 (0, 0))
  bel : Below w.heap.size w W
theorem QS.kept {w : World} {g p : Nat} {ys : List Sty} {W W' : World} (h : QS w g p ys W) (hb : Below W.heap.size W W') : QS w g p ys W' :=
  ⟨h.rl.kept h.rl.lt hb, (hb.block _ ((Array.getElem?_eq_some_iff.1 h.nm).1)).trans h.nm, h.bel.trans (below_le hb h.bel.size)⟩
set_option maxRecDepth 100000 in
set_option maxHeartbeats 4000000 in
theorem wprintR (g : Nat) (ys : List Sty) (w : World) (hR : RLat w g ys) : Calls Tryd.prog 38 #[.slice (some ⟨g, 0, none⟩) 10 10] w fun e w' => e = .returned (.string (tx (printB ys))) ∧ Below w.heap.size w w' := by
  have H0 : Hid (QS w g w.heap.size ys (w.alloc (.cells namesA 9))) := Lib.hid ⟨hR.kept hR.lt ((Below.refl _ _).alloc (Nat.le_refl _) _), heap_alloc_new _ _, (Below.refl _ _).alloc (Nat.le_refl _) _⟩
  clear hR
  go_enter Tryd.func38, Tryd.ntmps38
  go_wp2_with (go_at_call 37; refine (wparts _).mono ?_; rintro e w1 ⟨rfl, rfl⟩)
  generalize w.alloc (.cells namesA 9) = w1 at H0 ⊢
  have e0 : (⟨#[]⟩ : ByteArray) = tx (prL ys (List.range 0)) := rfl
  rw [e0]
  clear e0
  generalize hZ : tx (prL ys (List.range 0)) = Z
  have HZ := Lib.hid hZ
  clear hZ
  go_loopw [3, 5] (fun t i wr => ∃ (k : Nat) (S : ByteArray), k ≤ 10 ∧ i = .int .i64 k ∧ t = .string S ∧ Hid (S = tx (prL ys (List.range k)) ∧ QS w g w.heap.size ys wr)) (fun _ i _ => 10 - (intOf i).toNat)
  case atStart => exact ⟨0, Z, by omega, rfl, rfl, Lib.hid ⟨HZ.out.symm, H0.out⟩⟩
  case round =>
    clear H0
    obtain ⟨k, S, hk, rfl, rfl, HS⟩ := hrel
    by_cases hlt : k < 10
    · have hl := prL_len ys (List.range k)
      have hss : S.size ≤ 1170 := by
        rw [HS.out.1]
        simp [tx, ByteArray.size] at hl ⊢
        omega
      obtain ⟨c0, c1, c2, c3, c4⟩ := HS.out.2.rl.get k hlt
      have i1 : (0 : Int) ≤ (k : Int) := by omega
      have i2 : (k : Int) < 10 := by omega
      have HW := Lib.hid (fun V => wwordsRA (nthY ys k) V)
      unfold Sty.v at HW
      have HSN : Hid (prL ys (List.range (k + 1)) = prL ys (List.range k) ++ (prt k ++ ([32] ++ (wB (nthY ys k) ++ [10])))) := by
        have e : prL ys (List.range (k + 1)) = prL ys (List.range k) ++ (prt k ++ ([32] ++ (wB (nthY ys k) ++ [10]))) := by rw [List.range_succ, prL_snoc]; rfl
        exact Lib.hid e
      have hp := prt_len k
      have hwl := wB_len (nthY ys k)
      clear hl
      go_wp2_with (first | (go_at_call 8; fail))
      go_at_call 8
      refine (HW.out _).mono ?_
      rintro e w4 ⟨rfl, hb4⟩
      have H4 := Lib.hid (HS.out.2.kept hb4)
      have hcell := names_cell w4 w.heap.size H4.out.nm k hlt
      have h1 : (tx (prt k)).size ≤ 10 := by simpa [tx, ByteArray.size] using hp
      have h2 : (tx (wB (nthY ys k))).size ≤ 105 := by simpa [tx, ByteArray.size] using hwl
      obtain ⟨P, hP⟩ : ∃ P, P = tx (prt k) := ⟨_, rfl⟩
      obtain ⟨A, hA⟩ : ∃ P, P = tx (wB (nthY ys k)) := ⟨_, rfl⟩
      rw [← hP] at hcell h1
      rw [← hA] at h2 ⊢
      have HPA := Lib.hid (And.intro hP hA)
      clear hP hA hb4 c0 c1 c2 c3 c4 hp hwl
      go_wp2
      go_roundw
      case rel => exact ⟨k + 1, _, by omega, by go_num, rfl, Lib.hid ⟨by rw [HSN.out, HS.out.1, HPA.out.1, HPA.out.2]; apply ByteArray.ext; simp [tx], H4.out⟩⟩
      case measure => simp [intOf]; omega
    · obtain rfl : k = 10 := by omega
      have HE := Lib.hid HS.out.1
      go_wp2
      go_ret
      exact ⟨ret_str HE.out, HS.out.2.bel⟩
end Go.Proofs.YtlhfdpeidlbomaaDoor
