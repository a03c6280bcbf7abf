/- Own texts, merged: FB. -/
import Derived.Test.YtdehjofmangmbaaGreatMS31
/- Blocks of three cells; walks: spread. -/
namespace Go.Proofs.YtdehjofmangmbaaGreat
open Go.RowKit Go.Shelf
def C3 (T : TypeId) (w : World) (g : Nat) (a b c : Value) : Prop := w.heap[g]? = some (.cells #[a, b, c] T (0, 0))
def put3 (w : World) (g : Nat) (a b c : Value) : World := ((w.setCell ⟨g, 0, none⟩ a).setCell ⟨g, 1, none⟩ b).setCell ⟨g, 2, none⟩ c
theorem C3.lt {T : TypeId} {w : World} {g : Nat} {a b c : Value} (h : C3 T w g a b c) : g < w.heap.size := (Array.getElem?_eq_some_iff.1 h).1
theorem C3.kept {T : TypeId} {w w' : World} {g : Nat} {a b c : Value} (h : C3 T w g a b c) (hk : w'.heap[g]? = w.heap[g]?) : C3 T w' g a b c := by unfold C3; rw [hk]; exact h
theorem C3.below {T : TypeId} {w w' : World} {g : Nat} {a b c : Value} (h : C3 T w g a b c) (hb : Below w.heap.size w w') : C3 T w' g a b c := h.kept (hb.block g h.lt)
theorem C3.cells {T : TypeId} {w : World} {g : Nat} {a b c : Value} (h : C3 T w g a b c) : w.cell? ⟨g, 0, none⟩ = some a ∧ w.cell? ⟨g, 1, none⟩ = some b ∧ w.cell? ⟨g, 2, none⟩ = some c ∧ w.frozen? ⟨g, 0, none⟩ = false ∧ w.frozen? ⟨g, 1, none⟩ = false ∧ w.frozen? ⟨g, 2, none⟩ = false := by
  unfold C3 at h
  refine ⟨by simp [World.cell?, h], by simp [World.cell?, h], by simp [World.cell?, h], ?_, ?_, ?_⟩ <;> simp [World.frozen?, h]
theorem put3_size {w : World} {g : Nat} {a b c : Value} : (put3 w g a b c).heap.size = w.heap.size := by simp [put3]
theorem put3_other {w : World} {g j : Nat} {a b c : Value} (h : j ≠ g) : (put3 w g a b c).heap[j]? = w.heap[j]? := by
  unfold put3
  rw [Below.heap_setCell _ _ _ j (by simpa using h), Below.heap_setCell _ _ _ j (by simpa using h), Below.heap_setCell _ _ _ j (by simpa using h)]
theorem C3.put {T : TypeId} {w : World} {g : Nat} {a b c a' b' c' : Value} (h : C3 T w g a b c) : C3 T (put3 w g a' b' c') g a' b' c' := by
  unfold C3 at h ⊢
  have h0 := set_block (o := 0) h a'
  have h1 := set_block (o := 1) h0 b'
  have h2 := set_block (o := 2) h1 c'
  exact h2
theorem below_put3 {n : Nat} {w W : World} {g : Nat} {a b c : Value} (h : Below n w W) (hg : n ≤ g) : Below n w (put3 W g a b c) := ((h.setCell (p := ⟨g, 0, none⟩) hg _).setCell (p := ⟨g, 1, none⟩) hg _).setCell (p := ⟨g, 2, none⟩) hg _
theorem IntO.put3 {T : TypeId} {b : Nat} {W : World} {v : Value} {l : List Nat} {g : Nat} {a b' c a' b2 c2 : Value} (h : IntO b W v l) (hg : C3 T W g a b' c) (hT : T ≠ 3) : IntO b (put3 W g a' b2 c2) v l := by
  have hne : v.ownBlock ≠ some g := fun e => by
    rcases h.2 with ⟨hv, _⟩ | ⟨g', cap, cur, rfl, _, hg', _⟩
    · rw [hv] at e; cases e
    · obtain rfl : g' = g := by simpa [Value.ownBlock] using e
      have := hg.symm.trans hg'
      simp at this
      exact hT this.2
  exact ownsRow_setCell_other (a := ⟨g, 2, none⟩) (ownsRow_setCell_other (a := ⟨g, 1, none⟩) (ownsRow_setCell_other (a := ⟨g, 0, none⟩) h hne _) hne _) hne _
theorem IntO.mono {b b' : Nat} {W : World} {v : Value} {l : List Nat} (h : IntO b W v l) (hb : b' ≤ b) : IntO b' W v l := World.ownsRow.mono h hb
/-- The places that grd finds rise, from where it begins. -/
theorem grd_inc : ∀ (f : Nat) (o ws : List Bs) (i : Nat), (∀ x ∈ grd f o ws i, i ≤ x ∧ x < o.length) ∧ (grd f o ws i).Pairwise (· < ·)
  | 0, _, _, _ => by simp [grd]
  | f + 1, o, [], i => by rw [grd_nil]; simp
  | f + 1, o, c :: r, i => by
    rw [grd]
    split
    · rename_i hi
      split
      · obtain ⟨h1, h2⟩ := grd_inc f o r (i + 1)
        refine ⟨fun x hx => ?_, ?_⟩
        · rcases List.mem_cons.1 hx with rfl | q
          · exact ⟨Nat.le_refl _, hi⟩
          · have := h1 x q; omega
        · exact List.pairwise_cons.2 ⟨fun x hx => by have := h1 x hx; omega, h2⟩
      · obtain ⟨h1, h2⟩ := grd_inc f o (c :: r) (i + 1)
        exact ⟨fun x hx => by have := h1 x hx; omega, h2⟩
    · simp
theorem inc_span {l : List Nat} (h : l.Pairwise (· < ·)) : ∀ k, k < l.length → l.getD 0 0 + k ≤ l.getD k 0
  | 0, _ => by omega
  | k + 1, hk => by
    have ih := inc_span h k (by omega)
    have := List.pairwise_iff_getElem.1 h k (k + 1) (by omega) hk (by omega)
    have e1 : l.getD k 0 = l[k] := by rw [List.getD_eq_getElem?_getD, List.getElem?_eq_getElem (by omega)]; rfl
    have e2 : l.getD (k + 1) 0 = l[k + 1] := by rw [List.getD_eq_getElem?_getD, List.getElem?_eq_getElem hk]; rfl
    omega
theorem chn_facts {o wd : List Bs} {i : Nat} {l : List Nat} (h : chnS o wd i = some l) : l.length = wd.length ∧ (∀ x ∈ l, i ≤ x ∧ x < o.length) ∧ l.Pairwise (· < ·) := by
  unfold chnS at h
  split at h
  · rename_i q
    cases h
    exact ⟨q.2, grd_inc _ _ _ _⟩
  · cases h
/-- How a struct of rank, gaps and places stands in memory. -/
def fnd0 (b : Option Fnd) : Fnd := b.getD ⟨0, 0, []⟩
def FndO (b : Nat) (W : World) (v : Value) (f : Fnd) : Prop := ∃ x c, v = .agg #[.int .i64 f.rank, .int .i64 f.gaps, .slice x f.at_.length c] ∧ IntO b W (.slice x f.at_.length c) f.at_
def FndEnd (r : Option Fnd) (w : World) (e : Ending) (w' : World) : Prop := ∃ v, e = .returned (.tuple #[v, .bool r.isSome]) ∧ FndO w.heap.size w' v (fnd0 r) ∧ Below w.heap.size w w'
theorem spr_snoc (o wd : List Bs) (j : Nat) : (List.range (j + 1)).foldl (sprR o wd) none = sprR o wd ((List.range j).foldl (sprR o wd) none) j := by
  rw [List.range_succ, List.foldl_append]; rfl
def betS (b : Option Fnd) (g : Nat) (l : List Nat) : Option Fnd :=
  match b with
  | none => some ⟨4, g, l⟩
  | some x => if g < x.gaps then some ⟨4, g, l⟩ else some x
theorem spr_some {o wd : List Bs} {j : Nat} {l : List Nat} (h : chnS o wd j = some l) (b : Option Fnd) : sprR o wd b j = betS b (gapN l) l := by
  unfold sprR; rw [h]; cases b <;> rfl
theorem spr_none {o wd : List Bs} {j : Nat} (h : chnS o wd j = none) (b : Option Fnd) : sprR o wd b j = b := by
  unfold sprR; rw [h]
/-- What spread's loop keeps. -/
def SpI (T : TypeId) (w : World) (b : Option Fnd) (W : World) : Prop := ∃ x c, C3 T W (w.heap.size + 1) (.int .i64 (fnd0 b).rank) (.int .i64 (fnd0 b).gaps) (.slice x (fnd0 b).at_.length c) ∧ IntO w.heap.size W (.slice x (fnd0 b).at_.length c) (fnd0 b).at_ ∧ C3 T W w.heap.size (.int .i64 0) (.int .i64 0) (.slice none 0 0) ∧ Below w.heap.size w W
theorem SpI.below {T : TypeId} {w : World} {b : Option Fnd} {W W' : World} (h : SpI T w b W) (hB : Below W.heap.size W W') : SpI T w b W' := by
  obtain ⟨x, c, h1, h2, h3, h4⟩ := h
  exact ⟨x, c, h1.below hB, h2.below hB, h3.below hB, h4.trans (below_le hB h4.size)⟩
theorem SpI.put {T : TypeId} {w : World} {b : Option Fnd} {W : World} {r g : Nat} {l : List Nat} {x : Option Addr} {c : Nat} (h : SpI T w b W) (hT : T ≠ 3) (hI : IntO w.heap.size W (.slice x l.length c) l) : SpI T w (some ⟨r, g, l⟩) (put3 W (w.heap.size + 1) (.int .i64 r) (.int .i64 g) (.slice x l.length c)) := by
  obtain ⟨x0, c0, h1, h2, h3, h4⟩ := h
  exact ⟨x, c, h1.put, hI.put3 h1 hT, h3.kept (put3_other (by omega)), below_put3 h4 (by omega)⟩
set_option maxRecDepth 100000 in
set_option maxHeartbeats 2000000 in
theorem wspread (vo vw : Value) (o wd : List Bs) (hw : wd ≠ []) (w : World) (h1 : TxV w vo o) (h2 : TxV w vw wd) : Calls Tryz.prog 51 #[vo, vw] w (FndEnd (sprS o wd) w) := by
  have HCH := Lib.hid (fun (W : World) (hB : Below w.heap.size w W) (j : Nat) (hj : j < o.length) => wchain vo vw o wd j hj hw W (h1.below hB) (h2.below hB))
  unfold ChEnd at HCH
  have HWP := Lib.hid (List.length_pos_iff.2 hw)
  obtain ⟨xo, co, rfl, _, hn6, _⟩ := h1.old
  obtain ⟨xw, cw, rfl, _, hm6, _⟩ := h2.old
  obtain ⟨n, hn⟩ : ∃ n, n = o.length := ⟨_, rfl⟩
  have HN := Lib.hid hn
  obtain ⟨m, hm⟩ : ∃ m, m = wd.length := ⟨_, rfl⟩
  have HM := Lib.hid hm
  have HS0 : Hid (sprS o wd = (List.range n).foldl (sprR o wd) none) := Lib.hid (by rw [hn]; rfl)
  have H0 : Hid (SpI 43 w none ((w.alloc (.cells #[.int .i64 0, .int .i64 0, .slice none 0 0] 43)).alloc (.cells #[.int .i64 0, .int .i64 0, .slice none 0 0] 43))) := Lib.hid ⟨none, 0, by simpa [C3, fnd0] using heap_alloc_new (w.alloc (.cells #[.int .i64 0, .int .i64 0, .slice none 0 0] 43)) (.cells #[.int .i64 0, .int .i64 0, .slice none 0 0] 43), IntO.nil _ _, (heap_alloc_old _ _ (by simp)).trans (heap_alloc_new _ _), ((Below.refl _ _).alloc (Nat.le_refl _) _).alloc (by simp) _⟩
  rw [← hn] at hn6 HCH ⊢
  rw [← hm] at hm6 HCH HWP ⊢
  clear h1 h2 hn hm hw
  go_enter Tryz.func51, Tryz.ntmps51
  go_wp2
  generalize ((w.alloc (.cells #[.int .i64 0, .int .i64 0, .slice none 0 0] 43)).alloc (.cells #[.int .i64 0, .int .i64 0, .slice none 0 0] 43)) = W0 at H0 ⊢
  go_loopw [7, 14] (fun ov iv wr => ∃ (j : Nat) (b : Option Fnd), iv = .int .i64 (j : Int) ∧ j ≤ n ∧ ov = .bool b.isSome ∧ Hid (b = (List.range j).foldl (sprR o wd) none) ∧ Hid (SpI 43 w b wr)) (fun _ iv _ => n - (intOf iv).toNat)
  case atStart => exact ⟨0, none, rfl, Nat.zero_le _, rfl, Lib.hid rfl, H0⟩
  case round =>
    clear H0
    obtain ⟨j, b, rfl, hj, rfl, HB, HS⟩ := hrel
    have i1 : (0 : Int) ≤ (j : Int) := by omega
    by_cases hlt : j < n
    · have i2 : (j : Int) < (n : Int) := by omega
      have HSN := Lib.hid (spr_snoc o wd j)
      rw [← HB.out] at HSN
      go_wp2_with (first | (go_at_call 75; fail))
      go_at_call 75
      refine (HCH.out wr HS.out.choose_spec.choose_spec.2.2.2 j hlt).mono ?_
      rintro e w2 ⟨x, k, c, y, rfl, hr, hb2⟩
      have HS2 := Lib.hid (HS.out.below hb2)
      cases hc : chnS o wd j with
      | none =>
        rw [hc] at hr
        simp only at hr
        subst hr
        have HNX : Hid (b = (List.range (j + 1)).foldl (sprR o wd) none) := Lib.hid (by rw [HSN.out, spr_none hc])
        clear HS hb2 hc HSN
        go_wp2
        go_roundw
        case rel => exact ⟨j + 1, b, by go_num, by omega, rfl, HNX, HS2⟩
        case measure => simp [intOf]; omega
      | some l =>
        rw [hc] at hr
        simp only at hr
        obtain ⟨rfl, hI⟩ := hr
        obtain ⟨hl1, hl2, hl3⟩ := chn_facts hc
        have hlp : 0 < l.length := by have := HWP.out; have := HM.out; omega
        obtain ⟨hk, g, rfl, hg, hcc, hget⟩ := hI.get 0 hlp
        subst hk
        obtain ⟨q, hq⟩ : ∃ q, l.length = q + 1 := ⟨l.length - 1, by omega⟩
        have hlast := hget q (by omega)
        have hfst := hget 0 hlp
        have hsp := inc_span hl3 q (by omega)
        have hbd : l.getD q 0 < n := by
          have h1 := hl2 (l.getD q 0) (by rw [List.getD_eq_getElem?_getD, List.getElem?_eq_getElem (by omega)]; exact List.getElem_mem (by omega))
          have := HN.out
          omega
        have HG : Hid (gapN l = l.getD q 0 - l.getD 0 0 + 1 - (q + 1)) := Lib.hid (by unfold gapN; rw [hq]; rfl)
        have HI2 := Lib.hid (hI.mono (show w.heap.size ≤ wr.heap.size from HS.out.choose_spec.choose_spec.2.2.2.size))
        have HNX : Hid ((List.range (j + 1)).foldl (sprR o wd) none = betS b (gapN l) l) := Lib.hid (by rw [HSN.out, spr_some hc])
        have HQ := Lib.hid hq
        obtain ⟨A, hA⟩ : ∃ A, A = l.getD q 0 := ⟨_, rfl⟩
        obtain ⟨D, hD⟩ : ∃ D, D = l.getD 0 0 := ⟨_, rfl⟩
        rw [← hA] at hlast hsp hbd HG
        rw [← hD] at hfst hsp HG
        rw [hq]
        clear hA hD hl1 hl2 hl3 hlp hget hc HSN hI HS hb2 hq
        go_wp2
        go_quiet (fail)
        generalize hw3 : w2.drewN nq = w3
        have HS3 : Hid (SpI 43 w b w3) := Lib.hid (by rw [← hw3]; exact HS2.out.below (below_drewN (Below.refl _ _) _))
        have HI3 : Hid (IntO w.heap.size w3 (.slice (some ⟨g, 0, none⟩) l.length c) l) := Lib.hid (by rw [← hw3]; exact HI2.out.below (below_drewN (Below.refl _ _) _))
        clear hw3 hlast hfst HS2 HI2
        obtain ⟨x0, c0, k0, _, _, _⟩ := HS3.out
        obtain ⟨e0, e1, e2, f0, f1, f2⟩ := k0.cells
        obtain ⟨G, hG⟩ : ∃ G, G = gapN l := ⟨_, rfl⟩
        rw [← hG] at HG HNX
        have hGI : (A : Int) - (D : Int) + 1 - ((q : Int) + 1) = (G : Int) := by have := HG.out; omega
        have HPU : Hid (SpI 43 w (some ⟨4, G, l⟩) (((w3.setCell ⟨w.heap.size + 1, 0, none⟩ (.int .i64 4)).setCell ⟨w.heap.size + 1, 1, none⟩ (.int .i64 G)).setCell ⟨w.heap.size + 1, 2, none⟩ (.slice (some ⟨g, 0, none⟩) (q + 1) c))) := Lib.hid (by
          have h := HS3.out.put (r := 4) (g := G) (by decide) HI3.out
          rw [HQ.out] at h
          exact h)
        clear hG k0
        cases b with
        | none =>
          have HN2 : Hid (some ⟨4, G, l⟩ = (List.range (j + 1)).foldl (sprR o wd) none) := Lib.hid (by rw [HNX.out]; rfl)
          go_wp2
          go_roundw
          case rel => exact ⟨j + 1, some ⟨4, G, l⟩, by go_num, by omega, rfl, HN2, HPU⟩
          case measure => simp [intOf]; omega
        | some f =>
          by_cases hlt2 : G < f.gaps
          · have HN2 : Hid (some ⟨4, G, l⟩ = (List.range (j + 1)).foldl (sprR o wd) none) := Lib.hid (by rw [HNX.out]; show _ = (if G < f.gaps then _ else _); rw [if_pos hlt2])
            have i9 : (G : Int) < ((fnd0 (some f)).gaps : Int) := by show (G : Int) < (f.gaps : Int); omega
            go_wp2
            go_roundw
            case rel => exact ⟨j + 1, some ⟨4, G, l⟩, by go_num, by omega, rfl, HN2, HPU⟩
            case measure => simp [intOf]; omega
          · have HN2 : Hid (some f = (List.range (j + 1)).foldl (sprR o wd) none) := Lib.hid (by rw [HNX.out]; show _ = (if G < f.gaps then _ else _); rw [if_neg hlt2])
            have i9 : ¬ (G : Int) < ((fnd0 (some f)).gaps : Int) := by show ¬ (G : Int) < (f.gaps : Int); omega
            go_wp2
            go_roundw
            case rel => exact ⟨j + 1, some f, by go_num, by omega, rfl, HN2, HS3⟩
            case measure => simp [intOf]; omega
    · obtain rfl : j = n := by omega
      have HV : Hid (b = sprS o wd) := Lib.hid (by rw [HB.out, HS0.out])
      have i2 : ¬ (j : Int) < (j : Int) := by omega
      obtain ⟨x0, c0, k0, hI, kz, hB⟩ := HS.out
      obtain ⟨e0, e1, e2, _, _, _⟩ := k0.cells
      obtain ⟨z0, z1, z2, f0, f1, f2⟩ := kz.cells
      have HPZ : Hid (C3 43 (((wr.setCell ⟨w.heap.size, 0, none⟩ (.int .i64 (fnd0 b).rank)).setCell ⟨w.heap.size, 1, none⟩ (.int .i64 (fnd0 b).gaps)).setCell ⟨w.heap.size, 2, none⟩ (.slice x0 (fnd0 b).at_.length c0)) w.heap.size (.int .i64 (fnd0 b).rank) (.int .i64 (fnd0 b).gaps) (.slice x0 (fnd0 b).at_.length c0)) := Lib.hid kz.put
      have HIZ : Hid (IntO w.heap.size (((wr.setCell ⟨w.heap.size, 0, none⟩ (.int .i64 (fnd0 b).rank)).setCell ⟨w.heap.size, 1, none⟩ (.int .i64 (fnd0 b).gaps)).setCell ⟨w.heap.size, 2, none⟩ (.slice x0 (fnd0 b).at_.length c0)) (.slice x0 (fnd0 b).at_.length c0) (fnd0 b).at_) := Lib.hid (hI.put3 kz (by decide))
      have HBZ : Hid (Below w.heap.size w (((wr.setCell ⟨w.heap.size, 0, none⟩ (.int .i64 (fnd0 b).rank)).setCell ⟨w.heap.size, 1, none⟩ (.int .i64 (fnd0 b).gaps)).setCell ⟨w.heap.size, 2, none⟩ (.slice x0 (fnd0 b).at_.length c0))) := Lib.hid (below_put3 hB (Nat.le_refl _))
      clear k0 hI kz hB HB HS
      go_wp2
      refine bodyPost_ret (results_cell_tmp rfl _ _ w.heap.size 43 _ _ _ rfl HPZ.out Tryz.underlying43 rfl (by kernel_rfl)) rfl ?_
      rw [← HV.out]
      exact ⟨_, rfl, ⟨x0, c0, rfl, HIZ.out⟩, HBZ.out⟩
end Go.Proofs.YtdehjofmangmbaaGreat
