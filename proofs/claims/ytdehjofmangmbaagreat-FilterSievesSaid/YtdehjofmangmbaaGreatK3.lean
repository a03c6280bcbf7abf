/- Walk: begins of the reference. -/
import Derived.Test.YtdehjofmangmbaaGreatK2
namespace Go.Proofs.YtdehjofmangmbaaGreat
open Go.RowKit Go.Shelf Go.ChangeShapes Go.WideShapes
def frR (n : Nat) : Int := if n = 2 then 128 else if n = 3 then 2048 else if n = 4 then 65536 else 0
def fillB (l : Bs) (c : UInt8) (n : Nat) : Bs := l ++ List.replicate (n - l.length) c
/-- Are bytes the beginning of some rune's bytes? -/
def begR (l : Bs) : Bool := if lenR (l.getD 0 0).toNat < l.length ∨ tailsR l = false then false else
  decide (frR (lenR (l.getD 0 0).toNat) ≤ numR (fillB l 191 (lenR (l.getD 0 0).toNat)) ∧ numR (fillB l 128 (lenR (l.getD 0 0).toNat)) ≤ 1114111 ∧ (numR (fillB l 128 (lenR (l.getD 0 0).toNat)) < 55296 ∨ 57343 < numR (fillB l 191 (lenR (l.getD 0 0).toNat))))
theorem begR_eq (l : Bs) : begR l = (if lenR (l.getD 0 0).toNat < l.length ∨ tailsR l = false then false else
  decide (frR (lenR (l.getD 0 0).toNat) ≤ numR (fillB l 191 (lenR (l.getD 0 0).toNat)) ∧ numR (fillB l 128 (lenR (l.getD 0 0).toNat)) ≤ 1114111 ∧ (numR (fillB l 128 (lenR (l.getD 0 0).toNat)) < 55296 ∨ 57343 < numR (fillB l 191 (lenR (l.getD 0 0).toNat))))) := rfl
theorem fillB_len {l : Bs} {c : UInt8} {n : Nat} (h : l.length ≤ n) : (fillB l c n).length = n := by simp [fillB]; omega
theorem fillB_head {l : Bs} {c : UInt8} {n : Nat} (h : 1 ≤ l.length) : (fillB l c n).getD 0 0 = l.getD 0 0 := by
  unfold fillB
  rw [List.getD_eq_getElem?_getD, List.getD_eq_getElem?_getD, List.getElem?_append_left (by omega)]
theorem fillB_next (l : Bs) (c : UInt8) (k : Nat) (h : l.length ≤ k) : fillB l c (k + 1) = fillB l c k ++ [c] := by
  unfold fillB
  rw [show k + 1 - l.length = k - l.length + 1 by omega, List.replicate_succ', List.append_assoc]
theorem byteCells_app (a b : Bs) : Lib.byteCells (a ++ b) = Lib.byteCells a ++ Lib.byteCells b := by simp [Lib.byteCells]
theorem lenR_le (c : Nat) : lenR c ≤ 4 := by unfold lenR; repeat' split
                                             all_goals omega
theorem row_bytes {W : World} {base : Nat} {v : Value} {n : Nat} {l : Bs} (h : W.ownsRow base 5 1 v n (Lib.byteCells l)) (hn : 0 < n) : ∃ g cap, v = .slice (some ⟨g, 0, none⟩) n cap ∧ n ≤ cap ∧ g < W.heap.size ∧ base ≤ g ∧ BytesAt W g 0 l := by
  have h2 := h.2
  rcases h2 with ⟨_, h0⟩ | ⟨g, cap, cur, hv, hb, hg, hnc, _⟩
  · omega
  · subst hv
    refine ⟨g, cap, rfl, hnc, (Array.getElem?_eq_some_iff.1 hg).1, hb, fun j hj => ?_⟩
    have hl := h.1
    have := h.cellAt j (by simp [Lib.byteCells] at hl; omega)
    rw [Nat.zero_add, this, Lib.byteCells, List.getElem?_map, List.getElem?_eq_getElem hj, List.getD_eq_getElem?_getD, List.getElem?_eq_getElem hj]
    rfl
/-- The two rows of begins. -/
structure Beg (w : World) (l : Bs) (k : Nat) (v1 v2 : Value) (W : World) : Prop where
  r1 : W.ownsRow w.heap.size 5 1 v1 k (Lib.byteCells (fillB l 128 k))
  r2 : W.ownsRow w.heap.size 5 1 v2 k (Lib.byteCells (fillB l 191 k))
  ne : ∀ j, v1.ownBlock = some j → v2.ownBlock = some j → False
  bel : Below w.heap.size w W
theorem news_of {w W : World} {b off : Nat} {l : Bs} {B : Nat} (h : BytesAt w b off l) (hb : Below B w W) (hl : b < B) : ∀ (j : Nat) (u : Value), (Lib.byteCells l)[j]? = some u → W.cell? ((⟨b, off, none⟩ : Addr).add j) = some u := fun j u hu => by
  have hj : j < l.length := by
    have := (List.getElem?_eq_some_iff.1 hu).1
    simpa [Lib.byteCells] using this
  rw [add_plain, hb.cell (p := ⟨b, off + j, none⟩) hl, h j hj]
  rw [Lib.byteCells, List.getElem?_map, List.getElem?_eq_getElem hj] at hu
  rw [List.getD_eq_getElem?_getD, List.getElem?_eq_getElem hj]
  exact hu
theorem row_keeps {W W' : World} {B k : Nat} {v : Value} {xs : List Value} {row : Option Nat} (h : W.ownsRow B 5 1 v k xs) (hg : W.grownBy W' row) (hne : ∀ j, row = some j → v.ownBlock = some j → False) : W'.ownsRow B 5 1 v k xs :=
  row_kept h (fun j hj => hg.block j (h.lt j hj).2 (fun e => hne j e.symm hj))
theorem fillB_self (l : Bs) (c : UInt8) : fillB l c l.length = l := by simp [fillB]
theorem beg_first {w w1 : World} {n : Nat} {l : Bs} {v1 : Value} (ho : w1.ownsRow w.heap.size 5 1 v1 (0 + n) ([] ++ Lib.byteCells l)) (hg : (w.alloc (.cells #[] 5)).grownBy w1 (Value.ownBlock (.slice (some ⟨w.heap.size, 0, none⟩) 0 0))) : w1.ownsRow w.heap.size 5 1 v1 n (Lib.byteCells l) ∧ Below w.heap.size w w1 := by
  rw [Nat.zero_add, List.nil_append] at ho
  exact ⟨ho, ((Below.refl w.heap.size w).alloc (Nat.le_refl _) (.cells #[] 5)).grown hg (by simp) (fun j hj => by cases hj; exact Nat.le_refl _)⟩
theorem beg_second {w w1 w2 : World} {n : Nat} {l : Bs} {v1 v2 : Value} (h1 : w1.ownsRow w.heap.size 5 1 v1 n (Lib.byteCells l)) (hb : Below w.heap.size w w1) (ho : w2.ownsRow w.heap.size 5 1 v2 (0 + n) ([] ++ Lib.byteCells l)) (hg : (w1.alloc (.cells #[] 5)).grownBy w2 (Value.ownBlock (.slice (some ⟨w1.heap.size, 0, none⟩) 0 0)))
    (ha : v2.ownBlock = Value.ownBlock (.slice (some ⟨w1.heap.size, 0, none⟩) 0 0) ∨ v2.ownBlock = some (w1.alloc (.cells #[] 5)).heap.size) (hn : n = l.length) : Beg w l n v1 v2 w2 := by
  rw [Nat.zero_add, List.nil_append] at ho
  subst hn
  have hlt := fun j hj => (h1.lt j hj).2
  refine ⟨?_, by rw [fillB_self]; exact ho, fun j e1 e2 => ?_, (hb.alloc hb.size (.cells #[] 5)).grown hg (by have := hb.size; simp; omega) (fun j hj => by cases hj; exact hb.size)⟩
  · rw [fillB_self]
    refine row_keeps (row_kept h1 (fun j hj => Below.heap_alloc _ _ _ (hlt j hj))) hg (fun j e1 e2 => ?_)
    have e3 : w1.heap.size = j := by simpa [Value.ownBlock] using e1
    have := hlt _ e2
    omega
  · have h3 := hlt j e1
    rcases ha with e | e
    · have e3 : j = w1.heap.size := by rw [e2] at e; simpa [Value.ownBlock] using e
      omega
    · rw [e2] at e; simp at e; omega
theorem apart_at {W : World} {B k : Nat} {v v' u : Value} {xs : List Value} (hu : W.ownsRow B 5 1 u k xs) (hne : ∀ j, v.ownBlock = some j → u.ownBlock = some j → False) (ha : v'.ownBlock = v.ownBlock ∨ v'.ownBlock = some W.heap.size) : ∀ j, v'.ownBlock = some j → u.ownBlock = some j → False := fun j e1 e2 => by
  rcases ha with e | e
  · exact hne j (by rw [← e]; exact e1) e2
  · have := (hu.lt j e2).2
    rw [e1] at e
    cases e
    omega
/-- One of the two rows has grown. -/
structure Beg1 (w : World) (l : Bs) (k : Nat) (v1 v2 : Value) (W : World) : Prop where
  r1 : W.ownsRow w.heap.size 5 1 v1 (k + 1) (Lib.byteCells (fillB l 128 (k + 1)))
  r2 : W.ownsRow w.heap.size 5 1 v2 k (Lib.byteCells (fillB l 191 k))
  ne : ∀ j, v1.ownBlock = some j → v2.ownBlock = some j → False
  bel : Below w.heap.size w W
theorem beg_app1 {w W w1 : World} {l : Bs} {k : Nat} {v1 v2 v' : Value} {o : Obj} (h : Beg w l k v1 v2 W) (hk : l.length ≤ k) (ho : w1.ownsRow w.heap.size 5 1 v' (k + 1) (Lib.byteCells (fillB l 128 k) ++ [.int .u8 128])) (hg : (W.alloc o).grownBy w1 v1.ownBlock) (ha : v'.ownBlock = v1.ownBlock ∨ v'.ownBlock = some (W.alloc o).heap.size) : Beg1 w l k v' v2 w1 := by
  have h2 : (W.alloc o).ownsRow w.heap.size 5 1 v2 k (Lib.byteCells (fillB l 191 k)) := row_kept h.r2 (fun j hj => Below.heap_alloc _ _ _ (h.r2.lt j hj).2)
  refine ⟨?_, row_keeps h2 hg h.ne, apart_at h2 h.ne ha, (h.bel.alloc h.bel.size o).grown hg (by have := h.bel.size; simp; omega) (fun j hj => (h.r1.lt j hj).1)⟩
  rw [fillB_next _ _ _ hk, byteCells_app]
  exact ho
theorem beg_app2 {w W w1 : World} {l : Bs} {k : Nat} {v1 v2 v' : Value} {o : Obj} (h : Beg1 w l k v1 v2 W) (hk : l.length ≤ k) (ho : w1.ownsRow w.heap.size 5 1 v' (k + 1) (Lib.byteCells (fillB l 191 k) ++ [.int .u8 191])) (hg : (W.alloc o).grownBy w1 v2.ownBlock) (ha : v'.ownBlock = v2.ownBlock ∨ v'.ownBlock = some (W.alloc o).heap.size) : Beg w l (k + 1) v1 v' w1 := by
  have h2 : (W.alloc o).ownsRow w.heap.size 5 1 v1 (k + 1) (Lib.byteCells (fillB l 128 (k + 1))) := row_kept h.r1 (fun j hj => Below.heap_alloc _ _ _ (h.r1.lt j hj).2)
  have hn : ∀ j, v2.ownBlock = some j → v1.ownBlock = some j → False := fun j a b => h.ne j b a
  refine ⟨row_keeps h2 hg hn, ?_, fun j a b => apart_at h2 hn ha j b a, (h.bel.alloc h.bel.size o).grown hg (by have := h.bel.size; simp; omega) (fun j hj => (h.r2.lt j hj).1)⟩
  rw [fillB_next _ _ _ hk, byteCells_app]
  exact ho
def slLen : Value → Nat
  | .slice _ n _ => n
  | _ => 0
set_option maxRecDepth 100000 in
set_option maxHeartbeats 4000000 in
theorem rbegins (b off cap : Nat) (l : Bs) (hl : l.length ≤ cap) (hl1 : 1 ≤ l.length) (hl2 : l.length ≤ 1000000) (w : World) (h : BytesAt w b off l) (hbl : b < w.heap.size) : Calls Tryz.prog 94 #[.slice (some ⟨b, off, none⟩) l.length cap] w fun e w' => e = .returned (.bool (begR l)) ∧ Below w.heap.size w w' := by
  obtain ⟨i0, hi, hz0, hz1, hz2⟩ := info_parts5
  have HI5 := Lib.hid (And.intro hi (And.intro hz0 (And.intro hz1 hz2)))
  have HB := Lib.hid h
  have c0 := h 0 (by omega)
  rw [Nat.add_zero] at c0
  have HTL := Lib.hid (fun W hW => rtails b off cap l hl hl2 W hW)
  have HV := Lib.hid (begR_eq l)
  have HLE := Lib.hid (rlength (l.getD 0 0).toNat w)
  have HNL := Lib.hid (lenR_le (l.getD 0 0).toNat)
  have HNR := Lib.hid (fun (c : UInt8) (h1 : l.length ≤ lenR (l.getD 0 0).toNat) (g cap : Nat) (hc : lenR (l.getD 0 0).toNat ≤ cap) (W : World) (hW : BytesAt W g 0 (fillB l c (lenR (l.getD 0 0).toNat))) (hg : g < W.heap.size) => (show Calls Tryz.prog 95 #[.slice (some ⟨g, 0, none⟩) (lenR (l.getD 0 0).toNat) cap] W fun e w' => e = .returned (.int .i32 (numR (fillB l c (lenR (l.getD 0 0).toNat)))) ∧ Below W.heap.size W w' from by
    have h2 := fillB_len (c := c) h1
    have h3 := rnumber g 0 cap (fillB l c (lenR (l.getD 0 0).toNat)) (by omega) (by omega) (by rw [fillB_head hl1, h2]) W hW hg
    rw [h2] at h3
    exact h3))
  obtain ⟨N, hN⟩ : ∃ N, N = lenR (l.getD 0 0).toNat := ⟨_, rfl⟩
  rw [← hN] at HV HLE HNL HNR
  have HLL := Lib.hid hl1
  obtain ⟨x, hx⟩ : ∃ x, x = (l.getD 0 0).toNat := ⟨_, rfl⟩
  rw [← hx] at c0 HLE
  obtain ⟨R, hR⟩ : ∃ R, R = begR l := ⟨_, rfl⟩
  rw [← hR] at HV ⊢
  obtain ⟨Tl, hTl⟩ : ∃ T, T = tailsR l := ⟨_, rfl⟩
  rw [← hTl] at HTL HV
  obtain ⟨n, hn⟩ : ∃ n, n = l.length := ⟨_, rfl⟩
  have HN := Lib.hid hn
  rw [← hn] at hl hl2 HTL HV HNR hl1 ⊢
  have hN4 : N ≤ 4 := HNL.out
  have i0' : (0 : Int) < (n : Int) := by omega
  have hc1 : 0 < cap := by omega
  clear h hi hz0 hz1 hz2 hN hx hR hTl hn
  by_cases hgt : N < n
  · have HR : Hid (R = false) := Lib.hid (by rw [HV.out, if_pos (.inl hgt)])
    have i1 : (N : Int) < (n : Int) := by omega
    go_enter Tryz.func94, Tryz.ntmps94
    go_wp2_with (first | (go_at_call 93; (with_reducible refine HLE.out.mono ?_); rintro e w' ⟨rfl, rfl⟩))
    go_ret
    exact ⟨ret_bool HR.out.symm, Below.refl _ _⟩
  · have i1 : ¬ (N : Int) < (n : Int) := by omega
    cases Tl
    · have HR : Hid (R = false) := Lib.hid (by rw [HV.out, if_pos (.inr rfl)])
      have HTW := Lib.hid (HTL.out w HB.out)
      go_enter Tryz.func94, Tryz.ntmps94
      go_wp2_with (first | (go_at_call 93; (with_reducible refine HLE.out.mono ?_); rintro e w' ⟨rfl, rfl⟩) | (go_at_call 120; (with_reducible refine HTW.out.mono ?_); rintro e w' ⟨rfl, rfl⟩))
      go_ret
      exact ⟨ret_bool HR.out.symm, Below.refl _ _⟩
    · have HTW := Lib.hid (HTL.out w HB.out)
      have HR0 := Lib.hid (World.ownsRow_made (base := w.heap.size) (size := 1) (e := 5) w #[] 0 (Nat.le_refl _) (by unfold maxLen; omega) rfl)
      have HN0 := Lib.hid (news_of HB.out ((Below.refl w.heap.size w).alloc (Nat.le_refl _) (.cells #[] 5)) hbl)
      have HBY := Lib.hid (byteCells_one l)
      have HLN := Lib.hid (show (Lib.byteCells l).length = n * 1 by rw [HN.out]; simp [Lib.byteCells])
      go_enter Tryz.func94, Tryz.ntmps94
      go_wp2_with (first | (go_at_call 93; (with_reducible refine HLE.out.mono ?_); rintro e w' ⟨rfl, rfl⟩) | (go_at_call 120; (with_reducible refine HTW.out.mono ?_); rintro e w' ⟨rfl, rfl⟩) | (at_builtin; refine wpList_append_own_at _ rfl _ _ 50 rfl w.heap.size 5 i0 (.int .u8 0) 1 1 Tryz.underlying50 HI5.out.1 HI5.out.2.1 HI5.out.2.2.1 HI5.out.2.2.2 rfl (by decide) _ _ _ rfl HR0.out ⟨b, off, none⟩ n cap (Lib.byteCells l) rfl HLN.out HN0.out HBY.out (by unfold maxLen; omega) (by omega) (by simp) ?_; intro v1 w1 ho1 hg1 _ ha1; have HA1 := Lib.hid (beg_first ho1 hg1); have HN1 := Lib.hid (news_of HB.out (HA1.out.2.alloc HA1.out.2.size (.cells #[] 5)) hbl); have HR1 := Lib.hid (World.ownsRow_made (base := w.heap.size) (size := 1) (e := 5) w1 #[] 0 HA1.out.2.size (by unfold maxLen; omega) rfl); clear ho1 hg1 ha1 HR0 HN0) | (at_builtin; go_loud (refine wpList_append_own_at _ rfl _ _ 50 rfl w.heap.size 5 i0 (.int .u8 0) 1 1 Tryz.underlying50 HI5.out.1 HI5.out.2.1 HI5.out.2.2.1 HI5.out.2.2.2 rfl (by decide) _ _ _ rfl HR1.out ⟨b, off, none⟩ n cap (Lib.byteCells l) rfl HLN.out HN1.out HBY.out (by unfold maxLen; omega) (by omega) (by have := HA1.out.2.size; simp; omega) ?_); intro v2 w2 ho2 hg2 _ ha2; have HS := Lib.hid (beg_second HA1.out.1 HA1.out.2 ho2 hg2 ha2 HN.out); clear ho2 hg2 ha2 HR1 HN1 HA1))
      have HBI := Lib.hid (show Beg w l n v1 v2 w2 from HS.out)
      clear HS HTW HTL HLE c0
      go_loopw [4, 5] (fun a1 a2 wr => ∃ k : Nat, n ≤ k ∧ k ≤ N ∧ Hid (Beg w l k a1 a2 wr)) (fun a1 _ _ => N - slLen a1)
      case atStart => exact ⟨n, Nat.le_refl _, by omega, HBI⟩
      case round =>
        clear HBI
        obtain ⟨k, hnk, hkN, HK⟩ := hrel
        obtain ⟨y1, d1, rfl⟩ := ownsRow_is HK.out.r1
        obtain ⟨y2, d2, rfl⟩ := ownsRow_is HK.out.r2
        by_cases hlt : k < N
        · have i2 : (k : Int) < (N : Int) := by omega
          have hlk : l.length ≤ k := by have := HN.out; omega
          go_wp2_with (first | (at_builtin; refine wpList_append_own_at _ rfl _ _ 50 rfl w.heap.size 5 i0 (.int .u8 0) 1 1 Tryz.underlying50 HI5.out.1 HI5.out.2.1 HI5.out.2.2.1 HI5.out.2.2.2 rfl (by decide) _ _ _ rfl (HK.out.r1.alloc _) ⟨wr.heap.size, 0, none⟩ 1 1 [.int .u8 128] rfl rfl (cell_one_new _ _ _) (by simp [Value.oneCell']) (by unfold maxLen; omega) (by omega) (by have := HK.out.bel.size; simp; omega) ?_; intro v1 w3 ho1 hg1 _ ha1; have HA3 := Lib.hid (beg_app1 HK.out hlk ho1 hg1 ha1); clear ho1 hg1 ha1) | (at_builtin; go_loud (refine wpList_append_own_at _ rfl _ _ 50 rfl w.heap.size 5 i0 (.int .u8 0) 1 1 Tryz.underlying50 HI5.out.1 HI5.out.2.1 HI5.out.2.2.1 HI5.out.2.2.2 rfl (by decide) _ _ _ rfl (HA3.out.r2.alloc _) ⟨w3.heap.size, 0, none⟩ 1 1 [.int .u8 191] rfl rfl (cell_one_new _ _ _) (by simp [Value.oneCell']) (by unfold maxLen; omega) (by omega) (by have := HA3.out.bel.size; simp; omega) ?_); intro v2 w4 ho2 hg2 _ ha2; have HS := Lib.hid (beg_app2 HA3.out hlk ho2 hg2 ha2); clear ho2 hg2 ha2 HA3))
          go_roundw
          case rel => exact ⟨k + 1, by omega, by omega, HS⟩
          case measure =>
            obtain ⟨y3, d3, hv3⟩ := ownsRow_is HS.out.r1
            rw [hv3]
            simp [slLen]
            omega
        · obtain rfl : k = N := by omega
          have i2 : ¬ (k : Int) < (k : Int) := by omega
          obtain ⟨g1, e1, hv1, hc1', hg1, _, hb1⟩ := row_bytes HK.out.r1 (by omega)
          obtain ⟨g2, e2, hv2, hc2', hg2, _, hb2⟩ := row_bytes HK.out.r2 (by omega)
          cases hv1
          cases hv2
          have HQ1 := Lib.hid (HNR.out 128 (by omega) g1 d1 hc1' wr hb1 hg1)
          have HQ2 := Lib.hid (And.intro hb2 (And.intro hg2 hc2'))
          have HBE := Lib.hid HK.out.bel
          obtain ⟨X, hX⟩ : ∃ X, X = numR (fillB l 128 k) := ⟨_, rfl⟩
          obtain ⟨Y, hY⟩ : ∃ X, X = numR (fillB l 191 k) := ⟨_, rfl⟩
          rw [← hX] at HQ1 HV
          have HNR2 := Lib.hid (HNR.out 191 (by omega))
          rw [← hY] at HNR2 HV
          clear HNR HK hb1 hb2 hg1 hg2 hc1' hc2' hX hY hlt
          go_wp2_with (first | (go_at_call 95; fail))
          go_at_call 95
          refine HQ1.out.mono ?_
          rintro e w5 ⟨rfl, hb5⟩
          have HQ3 := Lib.hid (And.intro (HQ2.out.1.kept HQ2.out.2.1 hb5) (And.intro (show g2 < w5.heap.size by have := hb5.size; have := HQ2.out.2.1; omega) (HBE.out.trans (below_le hb5 HBE.out.size))))
          clear hb5 HQ1
          go_wp2_with (first | (go_at_call 95; fail))
          go_at_call 95
          refine (HNR2.out g2 d2 HQ2.out.2.2 w5 HQ3.out.1 HQ3.out.2.1).mono ?_
          rintro e w6 ⟨rfl, hb6⟩
          have HB6 := Lib.hid (HQ3.out.2.2.trans (below_le hb6 HQ3.out.2.2.size))
          clear hb6 HNR2 HQ2 HQ3 HBE
          have hfr : (w6.alloc (.cells #[.int .i32 0, .int .i32 0, .int .i32 128, .int .i32 2048, .int .i32 65536] 21)).cell? ⟨w6.heap.size, k, none⟩ = some (.int .i32 (frR k)) := by
            have h3 : k = 1 ∨ k = 2 ∨ k = 3 ∨ k = 4 := by omega
            rcases h3 with e | e | e | e <;> rw [e] <;> simp [go_sem, frR]
          obtain ⟨F, hF⟩ : ∃ F, F = frR k := ⟨_, rfl⟩
          rw [← hF] at hfr HV
          have HVV : Hid (R = decide (F ≤ Y ∧ X ≤ 1114111 ∧ (X < 55296 ∨ 57343 < Y))) := Lib.hid (by rw [HV.out, if_neg (by simp; omega)])
          have i3 : (0 : Int) ≤ (k : Int) := by omega
          have i4 : (k : Int) < 5 := by omega
          clear HV hF
          have hcs : (¬ F ≤ Y ∧ R = false) ∨ (F ≤ Y ∧ ¬ X ≤ 1114111 ∧ R = false) ∨ (F ≤ Y ∧ X ≤ 1114111 ∧ X < 55296 ∧ R = true) ∨ (F ≤ Y ∧ X ≤ 1114111 ∧ ¬ X < 55296 ∧ R = decide (57343 < Y)) := by
            rw [HVV.out]
            by_cases a1 : F ≤ Y
            · by_cases a2 : X ≤ 1114111
              · by_cases a3 : X < 55296
                · exact .inr (.inr (.inl ⟨a1, a2, a3, by rw [decide_eq_true_iff]; omega⟩))
                · exact .inr (.inr (.inr ⟨a1, a2, a3, by rw [decide_eq_decide]; omega⟩))
              · exact .inr (.inl ⟨a1, a2, by rw [decide_eq_false_iff_not]; omega⟩)
            · exact .inl ⟨a1, by rw [decide_eq_false_iff_not]; omega⟩
          clear HVV
          rcases hcs with ⟨a1, rr⟩ | ⟨a1, a2, rr⟩ | ⟨a1, a2, a3, rr⟩ | ⟨a1, a2, a3, rr⟩
          all_goals
            have HRR := Lib.hid rr
            clear rr
            go_wp2
            go_ret
            first | exact ⟨ret_bool HRR.out.symm, HB6.out.alloc HB6.out.size _⟩ | exact ⟨ret_bool (by rw [HRR.out]; simp; omega), HB6.out.alloc HB6.out.size _⟩
end Go.Proofs.YtdehjofmangmbaaGreat
