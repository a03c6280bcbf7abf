/- Walks: Sizes of the program and of the reference. -/
import Derived.Test.YtcbdmaffcjdnbaaW4
namespace Go.Proofs.Ytcbdmaffcjdnbaa
open Go.RowKit
/-- The bytes of a row's first j cells, added one by one as int adds. -/
def rowB (cs : List CellD) (z : Int) : Nat → Int
  | 0 => z
  | j + 1 => wrap64 (rowB cs z j + ((cs.getD j CellD.zero).s.size : Nat))
def bytesTo (A : List (List CellD)) : Nat → Int
  | 0 => 0
  | k + 1 => rowB (nth A k) (bytesTo A k) (nth A k).length
def lenAt (A : List (List CellD)) (i : Nat) : Nat := (nth A i).length
theorem lenAt_le {A : List (List CellD)} (h : Few A) (i : Nat) : lenAt A i ≤ 100 := h.2 i
theorem box1 {w wr : World} {p0 p1 p2 p3 : Value} (h : Below (w.heap.size + 1) (w.alloc (.cells #[p0, p1, p2, p3] 24)) wr) :
    wr.cell? ⟨w.heap.size, 0, none⟩ = some p0 ∧ wr.cell? ⟨w.heap.size, 1, none⟩ = some p1 ∧ wr.cell? ⟨w.heap.size, 2, none⟩ = some p2 ∧ wr.cell? ⟨w.heap.size, 3, none⟩ = some p3 := by
  have H : ∀ b o, b < w.heap.size + 1 → wr.cell? ⟨b, o, none⟩ = (w.alloc (.cells #[p0, p1, p2, p3] 24)).cell? ⟨b, o, none⟩ := fun b o hb => h.cell (p := ⟨b, o, none⟩) hb
  refine ⟨?_, ?_, ?_, ?_⟩ <;> rw [H _ _ (by omega)] <;> simp [go_sem]
set_option maxHeartbeats 2000000 in
theorem tsizes (a : Option Addr) (n cap : Nat) (r c : Int) (s : Bool) (A : List (List CellD)) (w : World) (hx : RowsV w a n cap A) (fx : Few A) :
    Calls Try.prog 9 #[.agg #[.slice a n cap, .int .i64 r, .int .i64 c, .bool s]] w fun e w' => e = .returned (.tuple #[.int .i64 n, .int .i64 (sumTo (lenAt A) n : Nat), .int .i64 (bytesTo A n)]) ∧ Below w.heap.size w w' := by
  have hn : n ≤ 30 := by have := fx.1; have := hx.1; omega
  have LE := Lib.hid (lenAt_le fx)
  have HX := Lib.hid hx
  clear hx fx
  go_enter Try.func9, Try.ntmps9
  go_wp2
  go_loopw [3, 4, 12] (fun x z i wr => ∃ k : Nat, k ≤ n ∧ i = .int .i64 k ∧ x = .int .i64 (sumTo (lenAt A) k : Nat) ∧ z = .int .i64 (bytesTo A k) ∧ Below (w.heap.size + 1) (w.alloc (.cells #[.slice a n cap, .int .i64 r, .int .i64 c, .bool s] 24)) wr) (fun _ _ i _ => n - (intOf i).toNat)
  case atStart => exact ⟨0, by omega, rfl, rfl, rfl, Below.refl _ _⟩
  case round =>
    obtain ⟨k, hk, rfl, rfl, rfl, hbel⟩ := hrel
    obtain ⟨wo, rfl⟩ : ∃ wo : World, wo = wr := ⟨_, rfl⟩
    have hsz : w.heap.size + 1 ≤ wo.heap.size := by have := hbel.size; simpa using this
    by_cases hlt : k < n
    · have hs1 := sumTo_le k LE.out
      have hs2 : (nth A k).length ≤ 100 := LE.out k
      have HS : Hid (sumTo (lenAt A) (k + 1) = sumTo (lenAt A) k + (nth A k).length) := rfl
      have HT : Hid (bytesTo A (k + 1) = rowB (nth A k) (bytesTo A k) (nth A k).length) := rfl
      have hx2 : RowsV wo a n cap A := HX.out.mono (((Below.refl _ _).alloc (Nat.le_refl _) _).trans (hbel.mono (by omega)))
      obtain ⟨_, _, _, hx4⟩ := hx2
      obtain ⟨b, off, rfl, hb, hc⟩ := hx4 (by omega)
      obtain ⟨v, hv, ar, nr, cr, rfl, hr⟩ := hc k hlt
      have hnr : nr = (nth A k).length := hr.1
      have hnr' : nr ≤ 100 := by omega
      have E := Lib.hid hnr
      have HR := Lib.hid hr
      have HB := Lib.hid hbel
      clear hc hx4 hr hnr hbel
      generalize bytesTo A k = z0 at *
      generalize sumTo (lenAt A) k = x0 at *
      generalize nth A k = cs at *
      go_wp2
      go_loopw [4, 22] (fun z i wr => ∃ j : Nat, j ≤ nr ∧ i = .int .i64 j ∧ z = .int .i64 (rowB cs z0 j) ∧ Below wo.heap.size wo wr) (fun _ i _ => nr - (intOf i).toNat)
      case atStart => exact ⟨0, by omega, rfl, rfl, Below.refl _ _⟩
      case round =>
        obtain ⟨j, hj, rfl, rfl, hbel⟩ := hrel
        by_cases hjl : j < nr
        · obtain ⟨b', off', rfl, hb', hc'⟩ := HR.out.2.2.2.2 (by omega)
          obtain ⟨q0, q1, q2, q3, q4, q5, q6⟩ := (hc' j (by omega)).mono hb' (hbel)
          have hb2 : b' < wr.heap.size := by have := hbel.size; omega
          have hwr : wo.heap.size ≤ wr.heap.size := hbel.size
          have HT2 : Hid (rowB cs z0 (j + 1) = wrap64 (rowB cs z0 j + ((cs.getD j CellD.zero).s.size : Nat))) := rfl
          have H := Lib.hid hbel
          clear hc' hbel
          generalize cs.getD j CellD.zero = d at *
          generalize rowB cs z0 j = zj at *
          go_wp2
          go_roundw
          case rel => exact ⟨j + 1, by omega, by go_num, by rw [HT2.out], H.out.trans ((Below.refl _ _).alloc (by omega) _)⟩
          case measure => simp [intOf]; omega
        · have hjn : j = nr := by omega
          subst hjn
          have H := Lib.hid hbel
          clear hbel
          go_wp2
          go_roundw
          case rel => exact ⟨k + 1, by omega, by go_num, by rw [HS.out, ← E.out]; go_num, by rw [HT.out, ← E.out], HB.out.trans (H.out.mono hsz)⟩
          case measure => simp [intOf]; omega
    · have hkn : k = n := by omega
      subst hkn
      obtain ⟨h0, _, _, _⟩ := box1 hbel
      have H := Lib.hid hbel
      clear hbel
      go_wp2
      go_ret3
      exact ⟨rfl, ((Below.refl _ _).alloc (Nat.le_refl _) _).trans (H.out.mono (by omega))⟩
set_option maxHeartbeats 2000000 in
theorem rsizes (a : Option Addr) (n cap : Nat) (r c : Int) (s : Bool) (A : List (List CellD)) (w : World) (hx : RowsV w a n cap A) (fx : Few A) :
    Calls Try.prog 10 #[.agg #[.slice a n cap, .int .i64 r, .int .i64 c, .bool s]] w fun e w' => e = .returned (.tuple #[.int .i64 n, .int .i64 (sumTo (lenAt A) n : Nat), .int .i64 (bytesTo A n)]) ∧ Below w.heap.size w w' := by
  have hn : n ≤ 30 := by have := fx.1; have := hx.1; omega
  have LE := Lib.hid (lenAt_le fx)
  have HX := Lib.hid hx
  clear hx fx
  go_enter Try.func10, Try.ntmps10
  go_wp2
  go_loopw [5, 6, 7] (fun x z i wr => ∃ k : Nat, k ≤ n ∧ i = .int .i64 k ∧ x = .int .i64 (sumTo (lenAt A) k : Nat) ∧ z = .int .i64 (bytesTo A k) ∧ Below (w.heap.size + 1) (w.alloc (.cells #[.slice a n cap, .int .i64 r, .int .i64 c, .bool s] 24)) wr) (fun _ _ i _ => n - (intOf i).toNat)
  case atStart => exact ⟨0, by omega, rfl, rfl, rfl, Below.refl _ _⟩
  case round =>
    obtain ⟨k, hk, rfl, rfl, rfl, hbel⟩ := hrel
    obtain ⟨wo, rfl⟩ : ∃ wo : World, wo = wr := ⟨_, rfl⟩
    have hsz : w.heap.size + 1 ≤ wo.heap.size := by have := hbel.size; simpa using this
    by_cases hlt : k < n
    · have hs1 := sumTo_le k LE.out
      have hs2 : (nth A k).length ≤ 100 := LE.out k
      have HS : Hid (sumTo (lenAt A) (k + 1) = sumTo (lenAt A) k + (nth A k).length) := rfl
      have HT : Hid (bytesTo A (k + 1) = rowB (nth A k) (bytesTo A k) (nth A k).length) := rfl
      have hx2 : RowsV wo a n cap A := HX.out.mono (((Below.refl _ _).alloc (Nat.le_refl _) _).trans (hbel.mono (by omega)))
      obtain ⟨_, _, _, hx4⟩ := hx2
      obtain ⟨b, off, rfl, hb, hc⟩ := hx4 (by omega)
      obtain ⟨v, hv, ar, nr, cr, rfl, hr⟩ := hc k hlt
      have hnr : nr = (nth A k).length := hr.1
      have hnr' : nr ≤ 100 := by omega
      have E := Lib.hid hnr
      have HR := Lib.hid hr
      have HB := Lib.hid hbel
      clear hc hx4 hr hnr hbel
      obtain ⟨b0, _, _, _⟩ := box1 HB.out
      generalize bytesTo A k = z0 at *
      generalize sumTo (lenAt A) k = x0 at *
      generalize nth A k = cs at *
      go_wp2
      go_loopw [6, 9] (fun z i wr => ∃ j : Nat, j ≤ nr ∧ i = .int .i64 j ∧ z = .int .i64 (rowB cs z0 j) ∧ Below wo.heap.size wo wr) (fun _ i _ => nr - (intOf i).toNat)
      case atStart => exact ⟨0, by omega, rfl, rfl, Below.refl _ _⟩
      case round =>
        obtain ⟨j, hj, rfl, rfl, hbel⟩ := hrel
        by_cases hjl : j < nr
        · obtain ⟨b', off', rfl, hb', hc'⟩ := HR.out.2.2.2.2 (by omega)
          obtain ⟨q0, q1, q2, q3, q4, q5, q6⟩ := (hc' j (by omega)).mono hb' (hbel)
          have hb2 : b' < wr.heap.size := by have := hbel.size; omega
          have hwr : wo.heap.size ≤ wr.heap.size := hbel.size
          have HT2 : Hid (rowB cs z0 (j + 1) = wrap64 (rowB cs z0 j + ((cs.getD j CellD.zero).s.size : Nat))) := rfl
          have H := Lib.hid hbel
          clear hc' hbel
          generalize cs.getD j CellD.zero = d at *
          generalize rowB cs z0 j = zj at *
          go_wp2
          go_roundw
          case rel => exact ⟨j + 1, by omega, by go_num, by rw [HT2.out], H.out⟩
          case measure => simp [intOf]; omega
        · have hjn : j = nr := by omega
          subst hjn
          have H := Lib.hid hbel
          clear hbel
          go_wp2
          go_roundw
          case rel => exact ⟨k + 1, by omega, by go_num, by rw [HS.out, ← E.out]; go_num, by rw [HT.out, ← E.out], HB.out.trans (H.out.mono hsz)⟩
          case measure => simp [intOf]; omega
    · obtain ⟨b0, _, _, _⟩ := box1 hbel
      have hkn : k = n := by omega
      subst hkn
      have H := Lib.hid hbel
      clear hbel
      go_wp2
      go_ret3
      exact ⟨rfl, ((Below.refl _ _).alloc (Nat.le_refl _) _).trans (H.out.mono (by omega))⟩
end Go.Proofs.Ytcbdmaffcjdnbaa
