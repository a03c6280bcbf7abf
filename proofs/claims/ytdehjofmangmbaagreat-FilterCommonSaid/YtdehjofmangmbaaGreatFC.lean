/- Walks: the reference's apart. -/
import Derived.Test.YtdehjofmangmbaaGreatFB
namespace Go.Proofs.YtdehjofmangmbaaGreat
open Go.RowKit Go.Shelf
/-- What has been found with others between is a row of places of its own. -/
theorem spr_inv (o wd : List Bs) : ∀ (L : List Nat) (f : Fnd), L.foldl (sprR o wd) none = some f → ∃ i, chnS o wd i = some f.at_ ∧ f.gaps = gapN f.at_ ∧ f.rank = 4 := by
  have : ∀ (L : List Nat) (b : Option Fnd), (∀ f, b = some f → ∃ i, chnS o wd i = some f.at_ ∧ f.gaps = gapN f.at_ ∧ f.rank = 4) → ∀ f, L.foldl (sprR o wd) b = some f → ∃ i, chnS o wd i = some f.at_ ∧ f.gaps = gapN f.at_ ∧ f.rank = 4 := by
    intro L
    induction L with
    | nil => intro b hb f h; exact hb f h
    | cons j r ih =>
      intro b hb f h
      refine ih (sprR o wd b j) (fun f hf => ?_) f h
      cases hc : chnS o wd j with
      | none => rw [spr_none hc] at hf; exact hb f hf
      | some l =>
        rw [spr_some hc] at hf
        cases b with
        | none => cases hf; exact ⟨j, hc, rfl, rfl⟩
        | some x =>
          by_cases q : gapN l < x.gaps
          · have hf2 : (if gapN l < x.gaps then some (⟨4, gapN l, l⟩ : Fnd) else some x) = some f := hf
            rw [if_pos q] at hf2
            cases hf2
            exact ⟨j, hc, rfl, rfl⟩
          · have hf2 : (if gapN l < x.gaps then some (⟨4, gapN l, l⟩ : Fnd) else some x) = some f := hf
            rw [if_neg q] at hf2
            exact hb f hf2
  exact fun L f h => this L none (fun f h => by cases h) f h
def RfO (b : Nat) (W : World) (v : Value) (f : Option Fnd) : Prop := ∃ x c, v = .agg #[.bool f.isSome, .int .i64 (fnd0 f).rank, .slice x (fnd0 f).at_.length c] ∧ IntO b W (.slice x (fnd0 f).at_.length c) (fnd0 f).at_
def RfEnd (r : Option Fnd) (w : World) (e : Ending) (w' : World) : Prop := ∃ v, e = .returned v ∧ RfO w.heap.size w' v r ∧ Below w.heap.size w w'
/-- What apart's loop keeps. -/
def ApI (T : TypeId) (w : World) (b : Option Fnd) (W : World) : Prop := ∃ x c, C3 T W (w.heap.size + 1) (.bool b.isSome) (.int .i64 (fnd0 b).rank) (.slice x (fnd0 b).at_.length c) ∧ IntO w.heap.size W (.slice x (fnd0 b).at_.length c) (fnd0 b).at_ ∧ C3 T W w.heap.size (.bool false) (.int .i64 0) (.slice none 0 0) ∧ Below w.heap.size w W
theorem ApI.below {T : TypeId} {w : World} {b : Option Fnd} {W W' : World} (h : ApI T w b W) (hB : Below W.heap.size W W') : ApI T w b W' := by
  obtain ⟨x, c, h1, h2, h3, h4⟩ := h
  exact ⟨x, c, h1.below hB, h2.below hB, h3.below hB, h4.trans (below_le hB h4.size)⟩
theorem ApI.put {T : TypeId} {w : World} {b : Option Fnd} {W : World} {r g : Nat} {l : List Nat} {x : Option Addr} {c : Nat} (h : ApI T w b W) (hT : T ≠ 3) (hI : IntO w.heap.size W (.slice x l.length c) l) : ApI T w (some ⟨r, g, l⟩) (put3 W (w.heap.size + 1) (.bool true) (.int .i64 r) (.slice x l.length c)) := by
  obtain ⟨x0, c0, h1, h2, h3, h4⟩ := h
  exact ⟨x, c, h1.put, hI.put3 h1 hT, h3.kept (put3_other (by omega)), below_put3 h4 (by omega)⟩
set_option maxRecDepth 100000 in
set_option maxHeartbeats 2000000 in
theorem rapart (vo vw : Value) (o wd : List Bs) (hw : wd ≠ []) (w : World) (h1 : TxV w vo o) (h2 : TxV w vw wd) : Calls Tryz.prog 58 #[vo, vw] w (RfEnd (sprS o wd) w) := by
  have HCH := Lib.hid (fun (W : World) (hB : Below w.heap.size w W) (j : Nat) (hj : j < o.length) => rinOrder vo vw o wd j hj hw W (h1.below hB) (h2.below hB))
  unfold ChEnd at HCH
  have HWP := Lib.hid (List.length_pos_iff.2 hw)
  obtain ⟨xo, co, rfl, _, hn6, _⟩ := h1.old
  obtain ⟨xw, cw, rfl, _, hm6, _⟩ := h2.old
  obtain ⟨n, hn⟩ : ∃ n, n = o.length := ⟨_, rfl⟩
  have HN := Lib.hid hn
  obtain ⟨m, hm⟩ : ∃ m, m = wd.length := ⟨_, rfl⟩
  have HM := Lib.hid hm
  have HS0 : Hid (sprS o wd = (List.range n).foldl (sprR o wd) none) := Lib.hid (by rw [hn]; rfl)
  have H0 : Hid (ApI 47 w none ((w.alloc (.cells #[.bool false, .int .i64 0, .slice none 0 0] 47)).alloc (.cells #[.bool false, .int .i64 0, .slice none 0 0] 47))) := Lib.hid ⟨none, 0, by simpa [C3, fnd0] using heap_alloc_new (w.alloc (.cells #[.bool false, .int .i64 0, .slice none 0 0] 47)) (.cells #[.bool false, .int .i64 0, .slice none 0 0] 47), IntO.nil _ _, (heap_alloc_old _ _ (by simp)).trans (heap_alloc_new _ _), ((Below.refl _ _).alloc (Nat.le_refl _) _).alloc (by simp) _⟩
  rw [← hn] at hn6 HCH ⊢
  rw [← hm] at hm6 HCH HWP ⊢
  clear h1 h2 hn hm hw
  go_enter Tryz.func58, Tryz.ntmps58
  go_wp2
  generalize ((w.alloc (.cells #[.bool false, .int .i64 0, .slice none 0 0] 47)).alloc (.cells #[.bool false, .int .i64 0, .slice none 0 0] 47)) = W0 at H0 ⊢
  go_loopw [6] (fun iv wr => ∃ (j : Nat) (b : Option Fnd), iv = .int .i64 (j : Int) ∧ j ≤ n ∧ Hid (b = (List.range j).foldl (sprR o wd) none) ∧ Hid (ApI 47 w b wr)) (fun iv _ => n - (intOf iv).toNat)
  case atStart => exact ⟨0, none, rfl, Nat.zero_le _, Lib.hid rfl, H0⟩
  case round =>
    clear H0
    obtain ⟨j, b, rfl, hj, HB, HS⟩ := hrel
    have i1 : (0 : Int) ≤ (j : Int) := by omega
    by_cases hlt : j < n
    · have i2 : (j : Int) < (n : Int) := by omega
      have HSN := Lib.hid (spr_snoc o wd j)
      rw [← HB.out] at HSN
      go_wp2_with (first | (go_at_call 80; fail))
      go_at_call 80
      refine (HCH.out wr HS.out.choose_spec.choose_spec.2.2.2 j hlt).mono ?_
      rintro e w2 ⟨x, k, c, y, rfl, hr, hb2⟩
      have HS2 := Lib.hid (HS.out.below hb2)
      cases hc : chnS o wd j with
      | none =>
        rw [hc] at hr
        simp only at hr
        subst hr
        have HNX : Hid (b = (List.range (j + 1)).foldl (sprR o wd) none) := Lib.hid (by rw [HSN.out, spr_none hc])
        clear HS hb2 hc HSN
        go_wp2
        go_roundw
        case rel => exact ⟨j + 1, b, by go_num, by omega, HNX, HS2⟩
        case measure => simp [intOf]; omega
      | some l =>
        rw [hc] at hr
        simp only at hr
        obtain ⟨rfl, hI⟩ := hr
        obtain ⟨hl1, hl2, hl3⟩ := chn_facts hc
        have hlp : 0 < l.length := by have := HWP.out; have := HM.out; omega
        obtain ⟨hk, g, rfl, hg, hcc, hget⟩ := hI.get 0 hlp
        subst hk
        obtain ⟨q, hq⟩ : ∃ q, l.length = q + 1 := ⟨l.length - 1, by omega⟩
        have hlast := hget q (by omega)
        have hfst := hget 0 hlp
        have hsp := inc_span hl3 q (by omega)
        have hbd : l.getD q 0 < n := by
          have h1 := hl2 (l.getD q 0) (by rw [List.getD_eq_getElem?_getD, List.getElem?_eq_getElem (by omega)]; exact List.getElem_mem (by omega))
          have := HN.out
          omega
        have HG : Hid (gapN l = l.getD q 0 - l.getD 0 0 + 1 - (q + 1)) := Lib.hid (by unfold gapN; rw [hq]; rfl)
        have HI2 := Lib.hid (hI.mono (show w.heap.size ≤ wr.heap.size from HS.out.choose_spec.choose_spec.2.2.2.size))
        have HNX : Hid ((List.range (j + 1)).foldl (sprR o wd) none = betS b (gapN l) l) := Lib.hid (by rw [HSN.out, spr_some hc])
        have HQ := Lib.hid hq
        obtain ⟨A, hA⟩ : ∃ A, A = l.getD q 0 := ⟨_, rfl⟩
        obtain ⟨D, hD⟩ : ∃ D, D = l.getD 0 0 := ⟨_, rfl⟩
        rw [← hA] at hlast hsp hbd HG
        rw [← hD] at hfst hsp HG
        have HLW := Lib.hid hl1
        have hqc : q + 1 ≤ c := by omega
        rw [hq]
        clear hA hD hl1 hl2 hl3 hlp hget hc HSN hI HS hb2 hq
        obtain ⟨G, hG⟩ : ∃ G, G = gapN l := ⟨_, rfl⟩
        rw [← hG] at HG HNX
        have HPU : Hid (∀ nq, ApI 47 w (some ⟨4, G, l⟩) ((((w2.drewN nq).setCell ⟨w.heap.size + 1, 0, none⟩ (.bool true)).setCell ⟨w.heap.size + 1, 1, none⟩ (.int .i64 4)).setCell ⟨w.heap.size + 1, 2, none⟩ (.slice (some ⟨g, 0, none⟩) (q + 1) c))) := Lib.hid (fun nq => by
          have h := (HS2.out.below (below_drewN (Below.refl _ _) nq)).put (r := 4) (g := G) (by decide) (HI2.out.below (below_drewN (Below.refl _ _) nq))
          rw [HQ.out] at h
          exact h)
        have HS3 : Hid (∀ nq, ApI 47 w b (w2.drewN nq)) := Lib.hid (fun nq => HS2.out.below (below_drewN (Below.refl _ _) nq))
        obtain ⟨x0, c0, k0, hI0, _, _⟩ := HS2.out
        obtain ⟨e0, e1, e2, f0, f1, f2⟩ := k0.cells
        clear hG k0 HI2
        cases b with
        | none =>
          have HN2 : Hid (some ⟨4, G, l⟩ = (List.range (j + 1)).foldl (sprR o wd) none) := Lib.hid (by rw [HNX.out]; rfl)
          have e0' : w2.cell? ⟨w.heap.size + 1, 0, none⟩ = some (.bool false) := e0
          clear hI0 e0 hlast hfst
          go_wp2
          go_quiet (fail)
          go_wp2
          go_roundw
          case rel => exact ⟨j + 1, some ⟨4, G, l⟩, by go_num, by omega, HN2, HPU.out _⟩
          case measure => simp [intOf]; omega
        | some f =>
          obtain ⟨i', hc', hgp, _⟩ := spr_inv o wd (List.range j) f HB.out.symm
          obtain ⟨hl1', hl2', hl3'⟩ := chn_facts hc'
          have hfl : f.at_.length = q + 1 := by have := HLW.out; have := HQ.out; omega
          have hI0' : IntO w.heap.size w2 (.slice x0 f.at_.length c0) f.at_ := hI0
          obtain ⟨_, g0, rfl, hg0, hcc0, hget0⟩ := hI0'.get 0 (by omega)
          have hlast' := hget0 q (by omega)
          have hfst' := hget0 0 (by omega)
          have hsp' := inc_span hl3' q (by omega)
          have hbd' : f.at_.getD q 0 < n := by
            have h1 := hl2' (f.at_.getD q 0) (by rw [List.getD_eq_getElem?_getD, List.getElem?_eq_getElem (by omega)]; exact List.getElem_mem (by omega))
            have := HN.out
            omega
          have HG' : Hid (f.gaps = f.at_.getD q 0 - f.at_.getD 0 0 + 1 - (q + 1)) := Lib.hid (by rw [hgp]; unfold gapN; rw [hfl]; rfl)
          obtain ⟨A', hA⟩ : ∃ A, A = f.at_.getD q 0 := ⟨_, rfl⟩
          obtain ⟨D', hD⟩ : ∃ D, D = f.at_.getD 0 0 := ⟨_, rfl⟩
          rw [← hA] at hlast' hsp' hbd' HG'
          rw [← hD] at hfst' hsp' HG'
          have e0' : w2.cell? ⟨w.heap.size + 1, 0, none⟩ = some (.bool true) := e0
          have e2' : w2.cell? ⟨w.heap.size + 1, 2, none⟩ = some (.slice (some ⟨g0, 0, none⟩) (q + 1) c0) := by rw [← hfl]; exact e2
          rw [hfl] at hcc0
          clear hA hD hI0 hI0' hget0 hl1' hl2' hl3' hc' hgp e0 e1 e2 hfl
          by_cases hlt2 : G < f.gaps
          · have HN2 : Hid (some ⟨4, G, l⟩ = (List.range (j + 1)).foldl (sprR o wd) none) := Lib.hid (by rw [HNX.out]; show _ = (if G < f.gaps then _ else _); rw [if_pos hlt2])
            have i9 : (A : Int) - (D : Int) < (A' : Int) - (D' : Int) := by have := HG.out; have := HG'.out; omega
            go_wp2
            go_quiet (fail)
            obtain ⟨xz, cz, kz, _, _, _⟩ := HS3.out nq
            obtain ⟨y0, y1, y2, z0, z1, z2⟩ := kz.cells
            have HPU2 := Lib.hid (HPU.out nq)
            clear kz e0' e2' f0 f1 f2 hlast hfst hlast' hfst' HPU HS3 HS2
            generalize w2.drewN nq = w3 at y0 y1 y2 z0 z1 z2 HPU2 ⊢
            go_wp2
            go_roundw
            case rel => exact ⟨j + 1, some ⟨4, G, l⟩, by go_num, by omega, HN2, HPU2⟩
            case measure => simp [intOf]; omega
          · have HN2 : Hid (some f = (List.range (j + 1)).foldl (sprR o wd) none) := Lib.hid (by rw [HNX.out]; show _ = (if G < f.gaps then _ else _); rw [if_neg hlt2])
            have i9 : ¬ (A : Int) - (D : Int) < (A' : Int) - (D' : Int) := by have := HG.out; have := HG'.out; omega
            go_wp2
            go_quiet (fail)
            go_wp2
            go_roundw
            case rel => exact ⟨j + 1, some f, by go_num, by omega, HN2, HS3.out _⟩
            case measure => simp [intOf]; omega
    · obtain rfl : j = n := by omega
      have HV : Hid (b = sprS o wd) := Lib.hid (by rw [HB.out, HS0.out])
      have i2 : ¬ (j : Int) < (j : Int) := by omega
      obtain ⟨x0, c0, k0, hI, kz, hB⟩ := HS.out
      obtain ⟨e0, e1, e2, _, _, _⟩ := k0.cells
      obtain ⟨z0, z1, z2, f0, f1, f2⟩ := kz.cells
      have HPZ : Hid (C3 47 (((wr.setCell ⟨w.heap.size, 0, none⟩ (.bool b.isSome)).setCell ⟨w.heap.size, 1, none⟩ (.int .i64 (fnd0 b).rank)).setCell ⟨w.heap.size, 2, none⟩ (.slice x0 (fnd0 b).at_.length c0)) w.heap.size (.bool b.isSome) (.int .i64 (fnd0 b).rank) (.slice x0 (fnd0 b).at_.length c0)) := Lib.hid kz.put
      have HIZ : Hid (IntO w.heap.size (((wr.setCell ⟨w.heap.size, 0, none⟩ (.bool b.isSome)).setCell ⟨w.heap.size, 1, none⟩ (.int .i64 (fnd0 b).rank)).setCell ⟨w.heap.size, 2, none⟩ (.slice x0 (fnd0 b).at_.length c0)) (.slice x0 (fnd0 b).at_.length c0) (fnd0 b).at_) := Lib.hid (hI.put3 kz (by decide))
      have HBZ : Hid (Below w.heap.size w (((wr.setCell ⟨w.heap.size, 0, none⟩ (.bool b.isSome)).setCell ⟨w.heap.size, 1, none⟩ (.int .i64 (fnd0 b).rank)).setCell ⟨w.heap.size, 2, none⟩ (.slice x0 (fnd0 b).at_.length c0))) := Lib.hid (below_put3 hB (Nat.le_refl _))
      clear k0 hI kz hB HB HS
      go_wp2
      refine bodyPost_ret (results_cell rfl _ _ w.heap.size 47 _ _ _ rfl HPZ.out Tryz.underlying47 rfl (by kernel_rfl)) rfl ?_
      rw [← HV.out]
      exact ⟨_, rfl, ⟨x0, c0, rfl, HIZ.out⟩, HBZ.out⟩
end Go.Proofs.YtdehjofmangmbaaGreat
