/- Walks: Plain, Set. -/
import Derived.Test.YtlhfdpeidlbomaaDoorTQ
namespace Go.Proofs.YtlhfdpeidlbomaaDoor
open Go.RowKit Go.Shelf
def noC (y : Sty) : Sty := ⟨y.b, y.u, y.i, 0, 0⟩
theorem nthY_ext {xs bs : List Sty} (ha : xs.length = 10) (hb : bs.length = 10) (h : ∀ i, i < 10 → nthY xs i = nthY bs i) : xs = bs := by
  apply List.ext_getElem (by omega)
  intro i h1 h2
  have := h i (by omega)
  unfold nthY at this
  rw [List.getD_eq_getElem?_getD, List.getD_eq_getElem?_getD, List.getElem?_eq_getElem h1, List.getElem?_eq_getElem h2] at this
  exact this
theorem nthY_map (ys : List Sty) (i : Nat) (h : i < ys.length) : nthY (ys.map noC) i = noC (nthY ys i) := by
  unfold nthY
  rw [List.getD_eq_getElem?_getD, List.getD_eq_getElem?_getD, List.getElem?_map, List.getElem?_eq_getElem h]
  rfl
theorem nthY_set (ys : List Sty) (k i : Nat) (y : Sty) (hk : k < ys.length) : nthY (ys.set k y) i = if i = k then y else nthY ys i := by
  unfold nthY
  rw [List.getD_eq_getElem?_getD, List.getD_eq_getElem?_getD]
  by_cases h : i = k
  · rw [if_pos h, h, List.getElem?_set_self hk]; rfl
  · rw [if_neg h, List.getElem?_set_ne (Ne.symm h)]
/-- Plain up to a place. -/
structure PlTo (ys : List Sty) (j : Nat) (zs : List Sty) : Prop where
  len : zs.length = 10
  at_ : ∀ i, i < 10 → nthY zs i = if i < j then noC (nthY ys i) else nthY ys i
theorem PlTo.start {ys : List Sty} (h : ys.length = 10) : PlTo ys 0 ys := ⟨h, fun i _ => by rw [if_neg (by omega)]⟩
theorem PlTo.step {ys zs : List Sty} {j : Nat} (h : PlTo ys j zs) (hj : j < 10) : PlTo ys (j + 1) (zs.set j (noC (nthY zs j))) := by
  refine ⟨by rw [List.length_set]; exact h.len, fun i hi => ?_⟩
  rw [nthY_set _ _ _ _ (by rw [h.len]; exact hj)]
  by_cases e : i = j
  · subst e
    rw [if_pos rfl, if_pos (by omega), h.at_ i hi, if_neg (by omega)]
  · rw [if_neg e, h.at_ i hi]
    by_cases l : i < j
    · rw [if_pos l, if_pos (by omega)]
    · rw [if_neg l, if_neg (by omega)]
theorem PlTo.done {ys zs : List Sty} (h : PlTo ys 10 zs) (hl : ys.length = 10) : zs = ys.map noC :=
  nthY_ext h.len (by rw [List.length_map, hl]) (fun i hi => by rw [h.at_ i hi, if_pos hi, nthY_map _ _ (by omega)])
theorem setIn_same {a : Array Value} {i : Nat} {v : Value} (h : a[i]? = some v) : a.setIfInBounds i v = a := by
  apply Array.ext_getElem?
  intro j
  rw [Array.getElem?_setIfInBounds]
  split
  · rename_i e
    subst e
    rw [h, if_pos (Array.getElem?_eq_some_iff.1 h).1]
  · rfl
theorem thCells_at (ys : List Sty) (hl : ys.length = 10) (k : Nat) (hk : k < 10) (j : Nat) (hj : j < 5) : (thCells ys)[k * 5 + j]? = (styL (nthY ys k))[j]? := by
  rw [thCells, List.getElem?_toArray, List.getElem?_append_left (by rw [flatS_len]; omega), flatS_get ys k (by omega) j hj]
theorem thCells_noC (ys : List Sty) (hl : ys.length = 10) (k : Nat) (hk : k < 10) : ((thCells ys).setIfInBounds (k * 5 + 3) (.int .i64 0)).setIfInBounds (k * 5 + 4) (.int .i64 0) = thCells (ys.set k (noC (nthY ys k))) := by
  rw [thCells_set ys k _ (by omega)]
  have h0 : (thCells ys)[k * 5]? = _ := thCells_at ys hl k hk 0 (by omega)
  have h1 := thCells_at ys hl k hk 1 (by omega)
  have h2 := thCells_at ys hl k hk 2 (by omega)
  rw [setIn_same (v := .bool (noC (nthY ys k)).b) h0, setIn_same (v := .bool (noC (nthY ys k)).u) h1, setIn_same (v := .bool (noC (nthY ys k)).i) h2]
  rfl
theorem flat_at (ys : List Sty) (hl : ys.length = 10) (k : Nat) (hk : k < 10) (j : Nat) (hj : j < 5) : (flatS ys).toArray[k * 5 + j]? = (styL (nthY ys k))[j]? := by
  rw [List.getElem?_toArray, flatS_get ys k (by omega) j hj]
theorem flat_noC (ys : List Sty) (hl : ys.length = 10) (k : Nat) (hk : k < 10) : ((flatS ys).toArray.setIfInBounds (k * 5 + 3) (.int .i64 0)).setIfInBounds (k * 5 + 4) (.int .i64 0) = (flatS (ys.set k (noC (nthY ys k)))).toArray := by
  rw [flatS_set ys k _ (by omega)]
  have h0 : (flatS ys).toArray[k * 5]? = _ := flat_at ys hl k hk 0 (by omega)
  have h1 := flat_at ys hl k hk 1 (by omega)
  have h2 := flat_at ys hl k hk 2 (by omega)
  simp only [← List.setIfInBounds_toArray]
  rw [setIn_same (v := .bool (noC (nthY ys k)).b) h0, setIn_same (v := .bool (noC (nthY ys k)).u) h1, setIn_same (v := .bool (noC (nthY ys k)).i) h2]
  rfl
theorem ThAt.plain {w : World} {b : Nat} {ys : List Sty} (h : ThAt w b ys) (k : Nat) (hk : k < 10) :
    ThAt ((w.setCell ⟨b, k * 5 + 3, none⟩ (.int .i64 0)).setCell ⟨b, k * 5 + 4, none⟩ (.int .i64 0)) b (ys.set k (noC (nthY ys k))) :=
  ⟨by rw [← thCells_noC ys h.len k hk]; exact set_block (set_block h.blk _) _, by rw [List.length_set]; exact h.len⟩
theorem RLat.plain {w : World} {b : Nat} {ys : List Sty} (h : RLat w b ys) (k : Nat) (hk : k < 10) :
    RLat ((w.setCell ⟨b, k * 5 + 3, none⟩ (.int .i64 0)).setCell ⟨b, k * 5 + 4, none⟩ (.int .i64 0)) b (ys.set k (noC (nthY ys k))) :=
  ⟨by rw [← flat_noC ys h.len k hk]; exact set_block (set_block h.blk _) _, by rw [List.length_set]; exact h.len⟩
theorem thCells_size (ys : List Sty) (h : ys.length = 10) : (thCells ys).size = 51 := by
  unfold thCells
  simp [flatS_len, h]
theorem thCells_one (ys : List Sty) : (thCells ys).all (·.oneCell') = true := by
  unfold thCells
  apply all_oneCell_toArray
  intro v hv
  rcases List.mem_append.1 hv with q | q
  · unfold flatS at q
    obtain ⟨y, _, hy⟩ := List.mem_flatMap.1 q
    simp only [styL, List.mem_cons, List.not_mem_nil, or_false] at hy
    rcases hy with e | e | e | e | e <;> subst e <;> rfl
  · simp at q
    subst q
    rfl
set_option maxRecDepth 100000 in
set_option maxHeartbeats 4000000 in
theorem wplain (b : Nat) (ys : List Sty) (w : World) (h : ThAt w b ys) : Calls Tryd.prog 19 #[.pointer (some ⟨b, 0, none⟩)] w fun e w' => ∃ g, e = .returned (.pointer (some ⟨g, 0, none⟩)) ∧ ThAt w' g (ys.map noC) ∧ w.heap.size ≤ g ∧ Below w.heap.size w w' := by
  have HL := Lib.hid h.len
  have HT := Lib.hid h
  have HC := Lib.hid (thCells_size ys h.len)
  have HO := Lib.hid (thCells_one ys)
  have HS := Lib.hid (fun (c : Array Value) => World.setRow_alloc_new w c (thCells ys) 69)
  have H0 : Hid (ThAt (w.alloc (.cells (thCells ys) 69)) w.heap.size ys ∧ Below w.heap.size w (w.alloc (.cells (thCells ys) 69))) := Lib.hid ⟨⟨heap_alloc_new _ _, h.len⟩, (Below.refl _ _).alloc (Nat.le_refl _) _⟩
  clear h
  obtain ⟨A, hA⟩ : ∃ A, A = thCells ys := ⟨_, rfl⟩
  have HTB : Hid (w.heap[b]? = some (.cells A 69 (0, 0))) := Lib.hid (by rw [hA]; exact HT.out.blk)
  rw [← hA] at HC HO HS H0
  clear hA
  go_enter Tryd.func19, Tryd.ntmps19
  go_wp2_with (first | (go_at_call 33; (with_reducible refine (wmade b ys _ HT.out).mono ?_); rintro e w' ⟨rfl, rfl⟩) | (with_reducible refine wpList_load_row rfl 69 _ rfl b rfl 69 A (0, 0) _ HTB.out Tryd.underlying69 rfl (by rw [HC.out]; kernel_rfl) ?_) | (with_reducible refine wpList_store_row rfl 69 _ _ rfl w.heap.size A rfl rfl 69 _ (heap_alloc_new _ _) (by rw [HC.out]; kernel_rfl) (by rw [HC.out]; kernel_rfl) HO.out ?_))
  rw [HS.out]
  generalize w.alloc (.cells A 69) = w1 at H0 ⊢
  obtain ⟨g, hg⟩ : ∃ g, g = w.heap.size := ⟨_, rfl⟩
  rw [← hg] at H0 ⊢
  have HG := Lib.hid hg
  clear hg HTB HC HO HS HT
  go_loopw [11] (fun i wr => ∃ (k : Nat) (zs : List Sty), i = .int .i64 k ∧ k ≤ 10 ∧ Hid (PlTo ys k zs ∧ ThAt wr g zs ∧ Below g w wr)) (fun i _ => 10 - (intOf i).toNat)
  case atStart => exact ⟨0, ys, rfl, by omega, Lib.hid ⟨PlTo.start HL.out, H0.out⟩⟩
  case round =>
    clear H0
    obtain ⟨k, zs, rfl, hk, HZ⟩ := hrel
    by_cases h0 : k < 10
    · have HN := Lib.hid (And.intro (HZ.out.1.step h0) (And.intro (HZ.out.2.1.plain k h0) ((HZ.out.2.2.setCell (p := ⟨g, k * 5 + 3, none⟩) (Nat.le_refl _) (.int .i64 0)).setCell (p := ⟨g, k * 5 + 4, none⟩) (Nat.le_refl _) (.int .i64 0))))
      obtain ⟨c0, c1, c2, c3, c4⟩ := HZ.out.2.1.get k h0
      have f3 := HZ.out.2.1.frozen (k * 5 + 3)
      have f4 := HZ.out.2.1.frozen (k * 5 + 4)
      have i1 : (0 : Int) ≤ (k : Int) := by omega
      have i2 : (k : Int) < 10 := by omega
      clear c0 c1 c2 HZ
      go_wp2
      go_roundw
      case rel => exact ⟨k + 1, _, by go_num, by omega, HN⟩
      case measure => simp [intOf]; omega
    · obtain rfl : k = 10 := by omega
      have e := HZ.out.1.done HL.out
      go_wp2
      go_ret
      exact ⟨g, rfl, e ▸ HZ.out.2.1, by rw [HG.out]; exact Nat.le_refl _, HG.out ▸ HZ.out.2.2⟩
/-- What Set answers. -/
def setI (s : Bs) (y : Sty) : Int := if plB s = true then if y.may then 0 else 310 else 6
def setY (ys : List Sty) (s : Bs) (y : Sty) : List Sty := if plB s = true ∧ y.may then ys.set (plI s).toNat y else ys
set_option maxRecDepth 100000 in
set_option maxHeartbeats 4000000 in
theorem wset (b : Nat) (ys : List Sty) (s : Bs) (y : Sty) (w : World) (h : ThAt w b ys) : Calls Tryd.prog 20 #[.pointer (some ⟨b, 0, none⟩), .string (tx s), y.v] w fun e w' => e = .returned (.int .i64 (setI s y)) ∧ ThAt w' b (setY ys s y) ∧ But [b] w w' := by
  have hlt := h.lt
  have H0 : Hid (ThAt (w.alloc (.cells (styCells y) 23)) b ys ∧ StyAt (w.alloc (.cells (styCells y) 23)) w.heap.size y ∧ But [b] w (w.alloc (.cells (styCells y) 23))) :=
    Lib.hid ⟨h.kept hlt ((Below.refl _ _).alloc (Nat.le_refl _) _), heap_alloc_new _ _, (But.refl _ _).alloc _⟩
  have HP := Lib.hid (fun W => wplace s W)
  have HI := Lib.hid (pl_in s)
  have HM := Lib.hid (fun W => wmay y W)
  have HMB := Lib.hid (show mayB y = decide y.may from by unfold mayB Sty.may; simp)
  have HN := Lib.hid (show w.heap.size ≠ b by omega)
  have HE : Hid (setI s y = (if plB s = true then if y.may then 0 else 310 else 6) ∧ setY ys s y = if plB s = true ∧ y.may then ys.set (plI s).toNat y else ys) := Lib.hid ⟨rfl, rfl⟩
  obtain ⟨I, hI⟩ : ∃ p, p = setI s y := ⟨_, rfl⟩
  obtain ⟨Y, hY⟩ : ∃ p, p = setY ys s y := ⟨_, rfl⟩
  rw [← hI, ← hY] at HE
  rw [← hI, ← hY]
  obtain ⟨p, hp⟩ : ∃ p, p = plI s := ⟨_, rfl⟩
  obtain ⟨q, hq⟩ : ∃ q, q = plB s := ⟨_, rfl⟩
  rw [← hp] at HP HI HE
  rw [← hq] at HP HE
  clear hp hq h hI hY
  obtain ⟨k, rfl⟩ := Int.eq_ofNat_of_zero_le HI.out.1
  have hk : k < 10 := by have := HI.out.2; omega
  have HY := Lib.hid (show (Int.ofNat k).toNat = k from rfl)
  clear HI
  obtain ⟨m, hm⟩ : ∃ m, m = mayB y := ⟨_, rfl⟩
  rw [← hm] at HM HMB
  clear hm
  obtain ⟨yb, yu, yi, yf, yg⟩ := y
  unfold Sty.v at HM ⊢
  unfold styCells at H0
  simp only [] at H0 HM ⊢
  go_enter Tryd.func20, Tryd.ntmps20
  go_wp2_with (first | (go_at_call 33; (with_reducible refine (wmade b ys _ H0.out.1).mono ?_); rintro e w' ⟨rfl, rfl⟩) | (go_at_call 30; fail))
  generalize w.alloc (.cells #[.bool yb, .bool yu, .bool yi, .int .i64 yf, .int .i64 yg] 23) = w1 at H0 ⊢
  go_at_call 30
  refine (HP.out _).mono ?_
  rintro e w2 ⟨rfl, hb2⟩
  have H2 := Lib.hid (And.intro (H0.out.1.kept H0.out.1.lt hb2) (And.intro (H0.out.2.1.kept H0.out.2.1.get.2.2.2.2.2.2 hb2) (H0.out.2.2.below hb2)))
  clear hb2 H0 HP
  cases q
  · have HR : Hid (I = 6 ∧ Y = ys) := Lib.hid (by have := HE.out; simpa using this)
    clear HE
    go_wp2
    go_ret
    rw [HR.out.1, HR.out.2]
    exact ⟨rfl, H2.out.1, H2.out.2.2⟩
  · obtain ⟨c0, c1, c2, c3, c4, _, _⟩ := H2.out.2.1.get
    simp only [] at c0 c1 c2 c3 c4
    go_wp2_with (first | (go_at_call 22; fail))
    go_at_call 22
    refine (HM.out _).mono ?_
    rintro e w3 ⟨rfl, hb3⟩
    clear c0 c1 c2 c3 c4
    have H3 := Lib.hid (And.intro (H2.out.1.kept H2.out.1.lt hb3) (And.intro (H2.out.2.1.kept H2.out.2.1.get.2.2.2.2.2.2 hb3) (H2.out.2.2.below hb3)))
    clear hb3 H2 HM
    cases m
    · have hno : ¬ (Sty.mk yb yu yi yf yg).may := by have := HMB.out; simpa using this.symm
      have HR : Hid (I = 310 ∧ Y = ys) := Lib.hid (by have := HE.out; simp only [if_true, true_and, if_neg hno] at this; exact this)
      clear HE hno HMB
      go_wp2
      go_ret
      rw [HR.out.1, HR.out.2]
      exact ⟨rfl, H3.out.1, H3.out.2.2⟩
    · have hno : (Sty.mk yb yu yi yf yg).may := by have := HMB.out; simpa using this.symm
      have HR : Hid (I = 0 ∧ Y = ys.set k ⟨yb, yu, yi, yf, yg⟩) := Lib.hid (by have := HE.out; simp only [if_true, true_and, if_pos hno] at this; exact this)
      clear HE hno HMB
      have HST := Lib.hid (And.intro (H3.out.1.stored k hk ⟨yb, yu, yi, yf, yg⟩) (but_stored H3.out.2.2 (o0 := k * 5) (o1 := k * 5 + 1) (o2 := k * 5 + 2) (o3 := k * 5 + 3) (o4 := k * 5 + 4) (v0 := .bool yb) (v1 := .bool yu) (v2 := .bool yi) (v3 := .int .i64 yf) (v4 := .int .i64 yg)))
      obtain ⟨c0, c1, c2, c3, c4, _, _⟩ := H3.out.2.1.get
      obtain ⟨d0, d1, d2, d3, d4⟩ := H3.out.1.get k hk
      have f0 := H3.out.1.frozen (k * 5)
      have f1 := H3.out.1.frozen (k * 5 + 1)
      have f2 := H3.out.1.frozen (k * 5 + 2)
      have f3 := H3.out.1.frozen (k * 5 + 3)
      have f4 := H3.out.1.frozen (k * 5 + 4)
      have i1 : (0 : Int) ≤ (k : Int) := by omega
      have i2 : (k : Int) < 10 := by omega
      simp only [] at c0 c1 c2 c3 c4 HST
      go_upto_region 8 with (fail)
      clear H3
      go_region
      all_goals
        go_wp2
        go_ret
        rw [HR.out.1, HR.out.2]
        exact ⟨rfl, HST.out.1.kept HST.out.1.lt (Below.refl _ _).drew, HST.out.2.drew⟩
end Go.Proofs.YtlhfdpeidlbomaaDoor
