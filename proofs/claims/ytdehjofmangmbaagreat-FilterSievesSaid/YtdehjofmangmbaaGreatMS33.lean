/- Own texts, merged: FC, FD, FE, FF, FG. -/
import Derived.Test.YtdehjofmangmbaaGreatMS32
/- Walks: the reference's apart. -/
namespace Go.Proofs.YtdehjofmangmbaaGreat
open Go.RowKit Go.Shelf
/-- What has been found with others between is a row of places of its own. -/
theorem spr_inv (o wd : List Bs) : ∀ (L : List Nat) (f : Fnd), L.foldl (sprR o wd) none = some f → ∃ i, chnS o wd i = some f.at_ ∧ f.gaps = gapN f.at_ ∧ f.rank = 4 := by
  have : ∀ (L : List Nat) (b : Option Fnd), (∀ f, b = some f → ∃ i, chnS o wd i = some f.at_ ∧ f.gaps = gapN f.at_ ∧ f.rank = 4) → ∀ f, L.foldl (sprR o wd) b = some f → ∃ i, chnS o wd i = some f.at_ ∧ f.gaps = gapN f.at_ ∧ f.rank = 4 := by
    intro L
    induction L with
    | nil => intro b hb f h; exact hb f h
    | cons j r ih =>
      intro b hb f h
      refine ih (sprR o wd b j) (fun f hf => ?_) f h
      cases hc : chnS o wd j with
      | none => rw [spr_none hc] at hf; exact hb f hf
      | some l =>
        rw [spr_some hc] at hf
        cases b with
        | none => cases hf; exact ⟨j, hc, rfl, rfl⟩
        | some x =>
          by_cases q : gapN l < x.gaps
          · have hf2 : (if gapN l < x.gaps then some (⟨4, gapN l, l⟩ : Fnd) else some x) = some f := hf
            rw [if_pos q] at hf2
            cases hf2
            exact ⟨j, hc, rfl, rfl⟩
          · have hf2 : (if gapN l < x.gaps then some (⟨4, gapN l, l⟩ : Fnd) else some x) = some f := hf
            rw [if_neg q] at hf2
            exact hb f hf2
  exact fun L f h => this L none (fun f h => by cases h) f h
def RfO (b : Nat) (W : World) (v : Value) (f : Option Fnd) : Prop := ∃ x c, v = .agg #[.bool f.isSome, .int .i64 (fnd0 f).rank, .slice x (fnd0 f).at_.length c] ∧ IntO b W (.slice x (fnd0 f).at_.length c) (fnd0 f).at_
def RfEnd (r : Option Fnd) (w : World) (e : Ending) (w' : World) : Prop := ∃ v, e = .returned v ∧ RfO w.heap.size w' v r ∧ Below w.heap.size w w'
/-- What apart's loop keeps. -/
def ApI (T : TypeId) (w : World) (b : Option Fnd) (W : World) : Prop := ∃ x c, C3 T W (w.heap.size + 1) (.bool b.isSome) (.int .i64 (fnd0 b).rank) (.slice x (fnd0 b).at_.length c) ∧ IntO w.heap.size W (.slice x (fnd0 b).at_.length c) (fnd0 b).at_ ∧ C3 T W w.heap.size (.bool false) (.int .i64 0) (.slice none 0 0) ∧ Below w.heap.size w W
theorem ApI.below {T : TypeId} {w : World} {b : Option Fnd} {W W' : World} (h : ApI T w b W) (hB : Below W.heap.size W W') : ApI T w b W' := by
  obtain ⟨x, c, h1, h2, h3, h4⟩ := h
  exact ⟨x, c, h1.below hB, h2.below hB, h3.below hB, h4.trans (below_le hB h4.size)⟩
theorem ApI.put {T : TypeId} {w : World} {b : Option Fnd} {W : World} {r g : Nat} {l : List Nat} {x : Option Addr} {c : Nat} (h : ApI T w b W) (hT : T ≠ 3) (hI : IntO w.heap.size W (.slice x l.length c) l) : ApI T w (some ⟨r, g, l⟩) (put3 W (w.heap.size + 1) (.bool true) (.int .i64 r) (.slice x l.length c)) := by
  obtain ⟨x0, c0, h1, h2, h3, h4⟩ := h
  exact ⟨x, c, h1.put, hI.put3 h1 hT, h3.kept (put3_other (by omega)), below_put3 h4 (by omega)⟩
set_option maxRecDepth 100000 in
set_option maxHeartbeats 2000000 in
theorem rapart (vo vw : Value) (o wd : List Bs) (hw : wd ≠ []) (w : World) (h1 : TxV w vo o) (h2 : TxV w vw wd) : Calls Tryz.prog 58 #[vo, vw] w (RfEnd (sprS o wd) w) := by
  have HCH := Lib.hid (fun (W : World) (hB : Below w.heap.size w W) (j : Nat) (hj : j < o.length) => rinOrder vo vw o wd j hj hw W (h1.below hB) (h2.below hB))
  unfold ChEnd at HCH
  have HWP := Lib.hid (List.length_pos_iff.2 hw)
  obtain ⟨xo, co, rfl, _, hn6, _⟩ := h1.old
  obtain ⟨xw, cw, rfl, _, hm6, _⟩ := h2.old
  obtain ⟨n, hn⟩ : ∃ n, n = o.length := ⟨_, rfl⟩
  have HN := Lib.hid hn
  obtain ⟨m, hm⟩ : ∃ m, m = wd.length := ⟨_, rfl⟩
  have HM := Lib.hid hm
  have HS0 : Hid (sprS o wd = (List.range n).foldl (sprR o wd) none) := Lib.hid (by rw [hn]; rfl)
  have H0 : Hid (ApI 47 w none ((w.alloc (.cells #[.bool false, .int .i64 0, .slice none 0 0] 47)).alloc (.cells #[.bool false, .int .i64 0, .slice none 0 0] 47))) := Lib.hid ⟨none, 0, by simpa [C3, fnd0] using heap_alloc_new (w.alloc (.cells #[.bool false, .int .i64 0, .slice none 0 0] 47)) (.cells #[.bool false, .int .i64 0, .slice none 0 0] 47), IntO.nil _ _, (heap_alloc_old _ _ (by simp)).trans (heap_alloc_new _ _), ((Below.refl _ _).alloc (Nat.le_refl _) _).alloc (by simp) _⟩
  rw [← hn] at hn6 HCH ⊢
  rw [← hm] at hm6 HCH HWP ⊢
  clear h1 h2 hn hm hw
  go_enter Tryz.func58, Tryz.ntmps58
  go_wp2
  generalize ((w.alloc (.cells #[.bool false, .int .i64 0, .slice none 0 0] 47)).alloc (.cells #[.bool false, .int .i64 0, .slice none 0 0] 47)) = W0 at H0 ⊢
  go_loopw [6] (fun iv wr => ∃ (j : Nat) (b : Option Fnd), iv = .int .i64 (j : Int) ∧ j ≤ n ∧ Hid (b = (List.range j).foldl (sprR o wd) none) ∧ Hid (ApI 47 w b wr)) (fun iv _ => n - (intOf iv).toNat)
  case atStart => exact ⟨0, none, rfl, Nat.zero_le _, Lib.hid rfl, H0⟩
  case round =>
    clear H0
    obtain ⟨j, b, rfl, hj, HB, HS⟩ := hrel
    have i1 : (0 : Int) ≤ (j : Int) := by omega
    by_cases hlt : j < n
    · have i2 : (j : Int) < (n : Int) := by omega
      have HSN := Lib.hid (spr_snoc o wd j)
      rw [← HB.out] at HSN
      go_wp2_with (first | (go_at_call 80; fail))
      go_at_call 80
      refine (HCH.out wr HS.out.choose_spec.choose_spec.2.2.2 j hlt).mono ?_
      rintro e w2 ⟨x, k, c, y, rfl, hr, hb2⟩
      have HS2 := Lib.hid (HS.out.below hb2)
      cases hc : chnS o wd j with
      | none =>
        rw [hc] at hr
        simp only at hr
        subst hr
        have HNX : Hid (b = (List.range (j + 1)).foldl (sprR o wd) none) := Lib.hid (by rw [HSN.out, spr_none hc])
        clear HS hb2 hc HSN
        go_wp2
        go_roundw
        case rel => exact ⟨j + 1, b, by go_num, by omega, HNX, HS2⟩
        case measure => simp [intOf]; omega
      | some l =>
        rw [hc] at hr
        simp only at hr
        obtain ⟨rfl, hI⟩ := hr
        obtain ⟨hl1, hl2, hl3⟩ := chn_facts hc
        have hlp : 0 < l.length := by have := HWP.out; have := HM.out; omega
        obtain ⟨hk, g, rfl, hg, hcc, hget⟩ := hI.get 0 hlp
        subst hk
        obtain ⟨q, hq⟩ : ∃ q, l.length = q + 1 := ⟨l.length - 1, by omega⟩
        have hlast := hget q (by omega)
        have hfst := hget 0 hlp
        have hsp := inc_span hl3 q (by omega)
        have hbd : l.getD q 0 < n := by
          have h1 := hl2 (l.getD q 0) (by rw [List.getD_eq_getElem?_getD, List.getElem?_eq_getElem (by omega)]; exact List.getElem_mem (by omega))
          have := HN.out
          omega
        have HG : Hid (gapN l = l.getD q 0 - l.getD 0 0 + 1 - (q + 1)) := Lib.hid (by unfold gapN; rw [hq]; rfl)
        have HI2 := Lib.hid (hI.mono (show w.heap.size ≤ wr.heap.size from HS.out.choose_spec.choose_spec.2.2.2.size))
        have HNX : Hid ((List.range (j + 1)).foldl (sprR o wd) none = betS b (gapN l) l) := Lib.hid (by rw [HSN.out, spr_some hc])
        have HQ := Lib.hid hq
        obtain ⟨A, hA⟩ : ∃ A, A = l.getD q 0 := ⟨_, rfl⟩
        obtain ⟨D, hD⟩ : ∃ D, D = l.getD 0 0 := ⟨_, rfl⟩
        rw [← hA] at hlast hsp hbd HG
        rw [← hD] at hfst hsp HG
        have HLW := Lib.hid hl1
        have hqc : q + 1 ≤ c := by omega
        rw [hq]
        clear hA hD hl1 hl2 hl3 hlp hget hc HSN hI HS hb2 hq
        obtain ⟨G, hG⟩ : ∃ G, G = gapN l := ⟨_, rfl⟩
        rw [← hG] at HG HNX
        have HPU : Hid (∀ nq, ApI 47 w (some ⟨4, G, l⟩) ((((w2.drewN nq).setCell ⟨w.heap.size + 1, 0, none⟩ (.bool true)).setCell ⟨w.heap.size + 1, 1, none⟩ (.int .i64 4)).setCell ⟨w.heap.size + 1, 2, none⟩ (.slice (some ⟨g, 0, none⟩) (q + 1) c))) := Lib.hid (fun nq => by
          have h := (HS2.out.below (below_drewN (Below.refl _ _) nq)).put (r := 4) (g := G) (by decide) (HI2.out.below (below_drewN (Below.refl _ _) nq))
          rw [HQ.out] at h
          exact h)
        have HS3 : Hid (∀ nq, ApI 47 w b (w2.drewN nq)) := Lib.hid (fun nq => HS2.out.below (below_drewN (Below.refl _ _) nq))
        obtain ⟨x0, c0, k0, hI0, _, _⟩ := HS2.out
        obtain ⟨e0, e1, e2, f0, f1, f2⟩ := k0.cells
        clear hG k0 HI2
        cases b with
        | none =>
          have HN2 : Hid (some ⟨4, G, l⟩ = (List.range (j + 1)).foldl (sprR o wd) none) := Lib.hid (by rw [HNX.out]; rfl)
          have e0' : w2.cell? ⟨w.heap.size + 1, 0, none⟩ = some (.bool false) := e0
          clear hI0 e0 hlast hfst
          go_wp2
          go_quiet (fail)
          go_wp2
          go_roundw
          case rel => exact ⟨j + 1, some ⟨4, G, l⟩, by go_num, by omega, HN2, HPU.out _⟩
          case measure => simp [intOf]; omega
        | some f =>
          obtain ⟨i', hc', hgp, _⟩ := spr_inv o wd (List.range j) f HB.out.symm
          obtain ⟨hl1', hl2', hl3'⟩ := chn_facts hc'
          have hfl : f.at_.length = q + 1 := by have := HLW.out; have := HQ.out; omega
          have hI0' : IntO w.heap.size w2 (.slice x0 f.at_.length c0) f.at_ := hI0
          obtain ⟨_, g0, rfl, hg0, hcc0, hget0⟩ := hI0'.get 0 (by omega)
          have hlast' := hget0 q (by omega)
          have hfst' := hget0 0 (by omega)
          have hsp' := inc_span hl3' q (by omega)
          have hbd' : f.at_.getD q 0 < n := by
            have h1 := hl2' (f.at_.getD q 0) (by rw [List.getD_eq_getElem?_getD, List.getElem?_eq_getElem (by omega)]; exact List.getElem_mem (by omega))
            have := HN.out
            omega
          have HG' : Hid (f.gaps = f.at_.getD q 0 - f.at_.getD 0 0 + 1 - (q + 1)) := Lib.hid (by rw [hgp]; unfold gapN; rw [hfl]; rfl)
          obtain ⟨A', hA⟩ : ∃ A, A = f.at_.getD q 0 := ⟨_, rfl⟩
          obtain ⟨D', hD⟩ : ∃ D, D = f.at_.getD 0 0 := ⟨_, rfl⟩
          rw [← hA] at hlast' hsp' hbd' HG'
          rw [← hD] at hfst' hsp' HG'
          have e0' : w2.cell? ⟨w.heap.size + 1, 0, none⟩ = some (.bool true) := e0
          have e2' : w2.cell? ⟨w.heap.size + 1, 2, none⟩ = some (.slice (some ⟨g0, 0, none⟩) (q + 1) c0) := by rw [← hfl]; exact e2
          rw [hfl] at hcc0
          clear hA hD hI0 hI0' hget0 hl1' hl2' hl3' hc' hgp e0 e1 e2 hfl
          by_cases hlt2 : G < f.gaps
          · have HN2 : Hid (some ⟨4, G, l⟩ = (List.range (j + 1)).foldl (sprR o wd) none) := Lib.hid (by rw [HNX.out]; show _ = (if G < f.gaps then _ else _); rw [if_pos hlt2])
            have i9 : (A : Int) - (D : Int) < (A' : Int) - (D' : Int) := by have := HG.out; have := HG'.out; omega
            go_wp2
            go_quiet (fail)
            obtain ⟨xz, cz, kz, _, _, _⟩ := HS3.out nq
            obtain ⟨y0, y1, y2, z0, z1, z2⟩ := kz.cells
            have HPU2 := Lib.hid (HPU.out nq)
            clear kz e0' e2' f0 f1 f2 hlast hfst hlast' hfst' HPU HS3 HS2
            generalize w2.drewN nq = w3 at y0 y1 y2 z0 z1 z2 HPU2 ⊢
            go_wp2
            go_roundw
            case rel => exact ⟨j + 1, some ⟨4, G, l⟩, by go_num, by omega, HN2, HPU2⟩
            case measure => simp [intOf]; omega
          · have HN2 : Hid (some f = (List.range (j + 1)).foldl (sprR o wd) none) := Lib.hid (by rw [HNX.out]; show _ = (if G < f.gaps then _ else _); rw [if_neg hlt2])
            have i9 : ¬ (A : Int) - (D : Int) < (A' : Int) - (D' : Int) := by have := HG.out; have := HG'.out; omega
            go_wp2
            go_quiet (fail)
            go_wp2
            go_roundw
            case rel => exact ⟨j + 1, some f, by go_num, by omega, HN2, HS3.out _⟩
            case measure => simp [intOf]; omega
    · obtain rfl : j = n := by omega
      have HV : Hid (b = sprS o wd) := Lib.hid (by rw [HB.out, HS0.out])
      have i2 : ¬ (j : Int) < (j : Int) := by omega
      obtain ⟨x0, c0, k0, hI, kz, hB⟩ := HS.out
      obtain ⟨e0, e1, e2, _, _, _⟩ := k0.cells
      obtain ⟨z0, z1, z2, f0, f1, f2⟩ := kz.cells
      have HPZ : Hid (C3 47 (((wr.setCell ⟨w.heap.size, 0, none⟩ (.bool b.isSome)).setCell ⟨w.heap.size, 1, none⟩ (.int .i64 (fnd0 b).rank)).setCell ⟨w.heap.size, 2, none⟩ (.slice x0 (fnd0 b).at_.length c0)) w.heap.size (.bool b.isSome) (.int .i64 (fnd0 b).rank) (.slice x0 (fnd0 b).at_.length c0)) := Lib.hid kz.put
      have HIZ : Hid (IntO w.heap.size (((wr.setCell ⟨w.heap.size, 0, none⟩ (.bool b.isSome)).setCell ⟨w.heap.size, 1, none⟩ (.int .i64 (fnd0 b).rank)).setCell ⟨w.heap.size, 2, none⟩ (.slice x0 (fnd0 b).at_.length c0)) (.slice x0 (fnd0 b).at_.length c0) (fnd0 b).at_) := Lib.hid (hI.put3 kz (by decide))
      have HBZ : Hid (Below w.heap.size w (((wr.setCell ⟨w.heap.size, 0, none⟩ (.bool b.isSome)).setCell ⟨w.heap.size, 1, none⟩ (.int .i64 (fnd0 b).rank)).setCell ⟨w.heap.size, 2, none⟩ (.slice x0 (fnd0 b).at_.length c0))) := Lib.hid (below_put3 hB (Nat.le_refl _))
      clear k0 hI kz hB HB HS
      go_wp2
      refine bodyPost_ret (results_cell rfl _ _ w.heap.size 47 _ _ _ rfl HPZ.out Tryz.underlying47 rfl (by kernel_rfl)) rfl ?_
      rw [← HV.out]
      exact ⟨_, rfl, ⟨x0, c0, rfl, HIZ.out⟩, HBZ.out⟩
end Go.Proofs.YtdehjofmangmbaaGreat
/- Walks: find. -/
namespace Go.Proofs.YtdehjofmangmbaaGreat
open Go.RowKit Go.Shelf
theorem besS_mem {o wd : List Bs} {x : Nat} (h : x ∈ besS o wd) : x + wd.length ≤ o.length ∧ isAt o wd x = true := by
  unfold besS at h
  obtain ⟨_, h2⟩ := List.mem_filter.1 h
  refine ⟨?_, h2⟩
  unfold isAt at h2
  exact (of_decide_eq_true h2).1
theorem besS_inc (o wd : List Bs) : (besS o wd).Pairwise (· < ·) := List.Pairwise.filter _ List.pairwise_lt_range
theorem besS_nil (o : List Bs) : besS o [] ≠ [] := by
  intro e
  have : 0 ∈ besS o [] := by
    unfold besS
    rw [List.mem_filter]
    exact ⟨by simp, by unfold isAt; simp⟩
  rw [e] at this
  cases this
theorem besS_len (o wd : List Bs) : (besS o wd).length ≤ o.length + 1 := by
  have := filter_le (isAt o wd) (o.length + 1 - wd.length)
  unfold besS
  omega
theorem fnd_nil {o wd : List Bs} (h : besS o wd = []) : fndS o wd = sprS o wd := by unfold fndS; rw [h]
theorem fnd_zero {o wd : List Bs} (hp : 0 < (besS o wd).length) (h : (besS o wd).getD 0 0 = 0) : fndS o wd = some ⟨if wd.length = o.length then 0 else 1, 0, runN 0 wd.length⟩ := by
  unfold fndS
  cases hb : besS o wd with
  | nil => rw [hb] at hp; simp at hp
  | cons p r =>
    rw [hb] at h
    simp only [List.getD_cons_zero] at h
    simp only
    rw [if_pos h]
theorem fnd_hit {o wd : List Bs} {j : Nat} (hj : j < (besS o wd).length) (h0 : (besS o wd).getD 0 0 ≠ 0) (h : ltr (o.getD ((besS o wd).getD j 0 - 1) []) = false) (hq : ∀ q, q < j → ltr (o.getD ((besS o wd).getD q 0 - 1) []) = true) : fndS o wd = some ⟨2, 0, runN ((besS o wd).getD j 0) wd.length⟩ := by
  unfold fndS
  revert hj h0 h hq
  cases hb : besS o wd with
  | nil => intro hj; simp at hj
  | cons p r =>
    intro hj h0 h hq
    simp only [List.getD_cons_zero] at h0
    simp only
    rw [if_neg h0]
    have e : (p :: r).find? (fun i => !ltr (o.getD (i - 1) [])) = some ((p :: r).getD j 0) := by
      rw [List.find?_eq_some_iff_getElem]
      refine ⟨by rw [h]; rfl, j, hj, by rw [List.getD_eq_getElem?_getD, List.getElem?_eq_getElem hj]; rfl, fun q hqj => ?_⟩
      have := hq q hqj
      rw [List.getD_eq_getElem?_getD (l := p :: r), List.getElem?_eq_getElem (by omega)] at this
      simp only [Option.getD_some] at this
      rw [this]
      rfl
    rw [e]
theorem fnd_last {o wd : List Bs} (hp : 0 < (besS o wd).length) (h0 : (besS o wd).getD 0 0 ≠ 0) (hq : ∀ q, q < (besS o wd).length → ltr (o.getD ((besS o wd).getD q 0 - 1) []) = true) : fndS o wd = some ⟨3, 0, runN ((besS o wd).getD 0 0) wd.length⟩ := by
  unfold fndS
  revert hp h0 hq
  cases hb : besS o wd with
  | nil => intro hj; simp at hj
  | cons p r =>
    intro hj h0 hq
    simp only [List.getD_cons_zero] at h0 ⊢
    rw [if_neg h0]
    have e : (p :: r).find? (fun i => !ltr (o.getD (i - 1) [])) = none := by
      rw [List.find?_eq_none]
      intro x hx
      obtain ⟨q, hq1, rfl⟩ := List.getElem_of_mem hx
      have := hq q hq1
      rw [List.getD_eq_getElem?_getD (l := p :: r), List.getElem?_eq_getElem hq1] at this
      simp only [Option.getD_some] at this
      rw [this]
      simp
    rw [e]
theorem runN_len (i n : Nat) : (runN i n).length = n := by simp [runN]
/-- A struct written into the result's block. -/
theorem fnd_put {T : TypeId} {w W : World} {z0 z1 z2 : Value} {x : Option Addr} {c r g : Nat} {l : List Nat} (hz : C3 T W w.heap.size z0 z1 z2) (hT : T ≠ 3) (hI : IntO w.heap.size W (.slice x l.length c) l) (hB : Below w.heap.size w W) :
    C3 T (put3 W w.heap.size (.int .i64 r) (.int .i64 g) (.slice x l.length c)) w.heap.size (.int .i64 r) (.int .i64 g) (.slice x l.length c) ∧ FndO w.heap.size (put3 W w.heap.size (.int .i64 r) (.int .i64 g) (.slice x l.length c)) (.agg #[.int .i64 r, .int .i64 g, .slice x l.length c]) ⟨r, g, l⟩ ∧ Below w.heap.size w (put3 W w.heap.size (.int .i64 r) (.int .i64 g) (.slice x l.length c)) :=
  ⟨hz.put, ⟨x, c, rfl, hI.put3 hz hT⟩, below_put3 hB (Nat.le_refl _)⟩
theorem FndO.parts {b : Nat} {W : World} {v : Value} {f : Fnd} (h : FndO b W v f) : ∃ x c, v = .agg #[.int .i64 f.rank, .int .i64 f.gaps, .slice x f.at_.length c] ∧ IntO b W (.slice x f.at_.length c) f.at_ := h
set_option maxRecDepth 100000 in
set_option maxHeartbeats 800000 in
theorem wfind (vo vw : Value) (o wd : List Bs) (ho : ∀ c ∈ o, c ≠ []) (w : World) (h1 : TxV w vo o) (h2 : TxV w vw wd) : Calls Tryz.prog 29 #[vo, vw] w (FndEnd (fndS o wd) w) := by
  have HBE := Lib.hid (fun (W : World) (hB : Below w.heap.size w W) => wbeside vo vw o wd W (h1.below hB) (h2.below hB))
  have HSP := Lib.hid (fun (hw : wd ≠ []) (W : World) (hB : Below w.heap.size w W) => wspread vo vw o wd hw W (h1.below hB) (h2.below hB))
  unfold FndEnd at HSP
  have HOV := Lib.hid (fun (W : World) (hB : Below w.heap.size w W) => (h1.below hB).old)
  have HON := Lib.hid ho
  obtain ⟨xo, co, rfl, _, hn6, _⟩ := h1.old
  obtain ⟨xw, cw, rfl, _, hm6, _⟩ := h2.old
  obtain ⟨n, hn⟩ : ∃ n, n = o.length := ⟨_, rfl⟩
  have HN := Lib.hid hn
  obtain ⟨m, hm⟩ : ∃ m, m = wd.length := ⟨_, rfl⟩
  have HM := Lib.hid hm
  have HZ0 : Hid (C3 43 (w.alloc (.cells #[.int .i64 0, .int .i64 0, .slice none 0 0] 43)) w.heap.size (.int .i64 0) (.int .i64 0) (.slice none 0 0)) := Lib.hid (heap_alloc_new _ _)
  have HB0 : Hid (Below w.heap.size w (w.alloc (.cells #[.int .i64 0, .int .i64 0, .slice none 0 0] 43))) := Lib.hid ((Below.refl _ _).alloc (Nat.le_refl _) _)
  rw [← hn] at hn6 HBE HSP HOV ⊢
  rw [← hm] at hm6 HBE HSP ⊢
  clear h1 h2 hn hm ho
  go_enter Tryz.func29, Tryz.ntmps29
  go_wp2_with (first | (go_at_call 50; fail))
  generalize (w.alloc (.cells #[.int .i64 0, .int .i64 0, .slice none 0 0] 43)) = W0 at HZ0 HB0 ⊢
  go_at_call 50
  refine (HBE.out W0 HB0.out).mono ?_
  rintro e w1 ⟨v, rfl, hI, hb1⟩
  obtain ⟨xv, cv, rfl⟩ := hI.is
  have HB1 := Lib.hid (HB0.out.trans (below_le hb1 HB0.out.size))
  have HZ1 := Lib.hid (HZ0.out.below hb1)
  have HI1 := Lib.hid hI
  have HLN := Lib.hid (besS_len o wd)
  obtain ⟨k, hk⟩ : ∃ k, k = (besS o wd).length := ⟨_, rfl⟩
  have HK := Lib.hid hk
  rw [← hk] at hI HI1 ⊢
  have hk6 : k ≤ 1000001 := by have := HLN.out; have := HN.out; omega
  clear hk hb1 HZ0 HB0 hI HBE
  by_cases hk0 : k = 0
  · subst hk0
    have hbn : besS o wd = [] := List.length_eq_zero_iff.1 HK.out.symm
    have hwn : wd ≠ [] := fun e => by rw [e] at hbn; exact besS_nil o hbn
    have HR := Lib.hid (fnd_nil hbn)
    have HSP2 := Lib.hid (HSP.out hwn w1 HB1.out)
    clear hbn hwn HSP
    go_wp2_with (first | (go_at_call 51; fail))
    refine HSP2.out.mono ?_
    rintro e w2 ⟨v2, rfl, hv2, hb2⟩
    obtain ⟨x2, c2, rfl, hI2⟩ := hv2.parts
    have HZ2 := Lib.hid (HZ1.out.below hb2)
    have HB2 := Lib.hid (HB1.out.trans (below_le hb2 HB1.out.size))
    have HI2 := Lib.hid (hI2.mono HB1.out.size)
    have HPZ := Lib.hid (fnd_put (r := (fnd0 (sprS o wd)).rank) (g := (fnd0 (sprS o wd)).gaps) HZ2.out (by decide) HI2.out HB2.out)
    obtain ⟨e0, e1, e2, f0, f1, f2⟩ := HZ2.out.cells
    unfold put3 at HPZ
    clear hv2 hI2 hb2 HSP2 HI1
    go_wp2
    refine bodyPost_ret (results_cell_tmp rfl _ _ w.heap.size 43 _ _ _ rfl HPZ.out.1 Tryz.underlying43 rfl (by kernel_rfl)) rfl ?_
    rw [HR.out]
    exact ⟨_, rfl, HPZ.out.2.1, HPZ.out.2.2⟩
  · have HI1' : Hid (IntO W0.heap.size w1 (.slice xv k cv) (besS o wd)) := HI1
    obtain ⟨hkk, gb, rfl, hgb, hkc, hget⟩ := HI1'.out.get 0 (by have := HK.out; omega)
    clear hkk
    have HGB := Lib.hid hget
    have c0 := hget 0 (by have := HK.out; omega)
    have HIN := Lib.hid (besS_inc o wd)
    have HME := Lib.hid (fun x (h : x ∈ besS o wd) => besS_mem h)
    obtain ⟨p, hp⟩ : ∃ p, p = (besS o wd).getD 0 0 := ⟨_, rfl⟩
    have HP := Lib.hid hp
    rw [← hp] at c0
    have hp6 : p ≤ 1000000 := by
      have h1 := (HME.out p (by rw [hp, List.getD_eq_getElem?_getD, List.getElem?_eq_getElem (by have := HK.out; omega)]; exact List.getElem_mem _)).1
      have := HN.out
      omega
    have hkz : ((k : Int) == 0) = false := by rw [beq_eq_false_iff_ne]; omega
    have hkc2 : k ≤ cv := by have := HK.out; omega
    clear hget hp hgb hkc HI1' HSP
    by_cases hp0 : p = 0
    · subst hp0
      have HR0 := Lib.hid (fnd_zero (o := o) (wd := wd) (by have := HK.out; omega) HP.out.symm)
      have HRUN : Hid (∀ W, Calls Tryz.prog 52 #[.int .i64 0, .int .i64 m] W fun e w' => ∃ v, e = .returned v ∧ IntO W.heap.size w' v (runN 0 m) ∧ Below W.heap.size W w') := Lib.hid (fun W => wrun 0 m (by omega) hm6 W)
      by_cases hmn : m = n
      · have HR : Hid (fndS o wd = some ⟨0, 0, runN 0 m⟩) := Lib.hid (by rw [HR0.out, if_pos (by rw [← HM.out, ← HN.out]; exact hmn), ← HM.out])
        have bmn : ((m : Int) == (n : Int)) = true := by rw [beq_iff_eq]; omega
        clear HR0 hmn
        go_wp2_with (first | (go_at_call 52; fail))
        refine (HRUN.out w1).mono ?_
        rintro e w2 ⟨v2, rfl, hI2, hb2⟩
        obtain ⟨x2, c2, rfl⟩ := hI2.is
        have HZ2 := Lib.hid (HZ1.out.below hb2)
        have HB2 := Lib.hid (HB1.out.trans (below_le hb2 HB1.out.size))
        have HI2 := Lib.hid (hI2.mono HB1.out.size)
        have HPZ := Lib.hid (fnd_put (r := 0) (g := 0) HZ2.out (by decide) HI2.out HB2.out)
        obtain ⟨e0, e1, e2, f0, f1, f2⟩ := HZ2.out.cells
        unfold put3 at HPZ
        rw [runN_len] at HPZ ⊢
        clear hI2 hb2 HRUN HI2
        go_wp2
        refine bodyPost_ret (results_cell_tmp rfl _ _ w.heap.size 43 _ _ _ rfl HPZ.out.1 Tryz.underlying43 rfl (by kernel_rfl)) rfl ?_
        rw [HR.out]
        exact ⟨_, rfl, HPZ.out.2.1, HPZ.out.2.2⟩
      · have HR : Hid (fndS o wd = some ⟨1, 0, runN 0 m⟩) := Lib.hid (by rw [HR0.out, if_neg (by rw [← HM.out, ← HN.out]; exact hmn), ← HM.out])
        have bmn : ((m : Int) == (n : Int)) = false := by rw [beq_eq_false_iff_ne]; omega
        clear HR0 hmn
        go_wp2_with (first | (go_at_call 52; fail))
        refine (HRUN.out w1).mono ?_
        rintro e w2 ⟨v2, rfl, hI2, hb2⟩
        obtain ⟨x2, c2, rfl⟩ := hI2.is
        have HZ2 := Lib.hid (HZ1.out.below hb2)
        have HB2 := Lib.hid (HB1.out.trans (below_le hb2 HB1.out.size))
        have HI2 := Lib.hid (hI2.mono HB1.out.size)
        have HPZ := Lib.hid (fnd_put (r := 1) (g := 0) HZ2.out (by decide) HI2.out HB2.out)
        obtain ⟨e0, e1, e2, f0, f1, f2⟩ := HZ2.out.cells
        unfold put3 at HPZ
        rw [runN_len] at HPZ ⊢
        clear hI2 hb2 HRUN HI2
        go_wp2
        refine bodyPost_ret (results_cell_tmp rfl _ _ w.heap.size 43 _ _ _ rfl HPZ.out.1 Tryz.underlying43 rfl (by kernel_rfl)) rfl ?_
        rw [HR.out]
        exact ⟨_, rfl, HPZ.out.2.1, HPZ.out.2.2⟩
    · have hpz : ((p : Int) == 0) = false := by rw [beq_eq_false_iff_ne]; omega
      go_wp2
      go_loopw [38] (fun iv wr => ∃ j : Nat, iv = .int .i64 (j : Int) ∧ j ≤ k ∧ Hid (∀ q, q < j → ltr (o.getD ((besS o wd).getD q 0 - 1) []) = true) ∧ w1 = wr) (fun iv _ => k - (intOf iv).toNat)
      case atStart => exact ⟨0, rfl, Nat.zero_le _, Lib.hid (fun q h => by omega), rfl⟩
      case round =>
        obtain ⟨j, rfl, hj, HQ, rfl⟩ := hrel
        have i1 : (0 : Int) ≤ (j : Int) := by omega
        by_cases hlt : j < k
        · have i2 : (j : Int) < (k : Int) := by omega
          have hjl : j < (besS o wd).length := by have := HK.out; omega
          have cj := HGB.out j hjl
          have hmem := HME.out ((besS o wd).getD j 0) (by rw [List.getD_eq_getElem?_getD, List.getElem?_eq_getElem hjl]; exact List.getElem_mem _)
          have hsp := inc_span HIN.out j hjl
          obtain ⟨y, hy⟩ : ∃ y, (besS o wd).getD j 0 = y + 1 := ⟨(besS o wd).getD j 0 - 1, by have := HP.out; omega⟩
          have HY := Lib.hid hy
          rw [hy] at cj
          have hyn : y < n := by have := hmem.1; have := HN.out; omega
          obtain ⟨xo', co', hv', _, _, hg'⟩ := HOV.out w1 HB1.out
          obtain ⟨g, off, rfl, hg, hget⟩ := hg' (List.ne_nil_of_length_pos (by have := HN.out; omega))
          obtain ⟨rfl, rfl⟩ : xo = some ⟨g, off, none⟩ ∧ co = co' := by simpa using hv'
          have cy := hget y (by have := HN.out; omega)
          have HLT := Lib.hid (fun W => wletter (o.getD y []) (HON.out _ (by rw [List.getD_eq_getElem?_getD, List.getElem?_eq_getElem (by have := HN.out; omega)]; exact List.getElem_mem _)) W)
          generalize tx (o.getD y []) = U at cy HLT
          obtain ⟨b, hb⟩ : ∃ b, b = ltr (o.getD y []) := ⟨_, rfl⟩
          rw [← hb] at HLT
          have HBT := Lib.hid hb
          clear hb hv' hg' hget hmem hsp hy
          cases b
          · have HR : Hid (fndS o wd = some ⟨2, 0, runN (y + 1) m⟩) := Lib.hid (by
              have h := fnd_hit (o := o) (wd := wd) hjl (by rw [← HP.out]; exact hp0) (by rw [HY.out]; exact HBT.out.symm) HQ.out
              rw [h, HY.out, ← HM.out])
            have HRUN : Hid (∀ W, Calls Tryz.prog 52 #[.int .i64 ((y : Int) + 1), .int .i64 m] W fun e w' => ∃ v, e = .returned v ∧ IntO W.heap.size w' v (runN (y + 1) m) ∧ Below W.heap.size W w') := Lib.hid (fun W => wrun (y + 1) m (by omega) hm6 W)
            go_wp2_with (first | (go_at_call 53; refine (HLT.out _).mono ?_; rintro e w9 ⟨rfl, rfl⟩) | (go_at_call 52; fail))
            refine (HRUN.out w1).mono ?_
            rintro e w2 ⟨v2, rfl, hI2, hb2⟩
            obtain ⟨x2, c2, rfl⟩ := hI2.is
            have HZ2 := Lib.hid (HZ1.out.below hb2)
            have HB2 := Lib.hid (HB1.out.trans (below_le hb2 HB1.out.size))
            have HI2 := Lib.hid (hI2.mono HB1.out.size)
            have HPZ := Lib.hid (fnd_put (r := 2) (g := 0) HZ2.out (by decide) HI2.out HB2.out)
            obtain ⟨e0, e1, e2, f0, f1, f2⟩ := HZ2.out.cells
            unfold put3 at HPZ
            rw [runN_len] at HPZ ⊢
            clear hI2 hb2 HRUN HI2
            go_wp2
            refine bodyPost_ret (results_cell_tmp rfl _ _ w.heap.size 43 _ _ _ rfl HPZ.out.1 Tryz.underlying43 rfl (by kernel_rfl)) rfl ?_
            rw [HR.out]
            exact ⟨_, rfl, HPZ.out.2.1, HPZ.out.2.2⟩
          · go_wp2_with (first | (go_at_call 53; refine (HLT.out _).mono ?_; rintro e w9 ⟨rfl, rfl⟩))
            go_roundw
            case rel => exact ⟨j + 1, by go_num, by omega, Lib.hid (fun q h => by
              by_cases e : q = j
              · rw [e, HY.out]; exact HBT.out.symm
              · exact HQ.out q (by omega)), by trivial⟩
            case measure => simp [intOf] <;> omega
        · have HR : Hid (fndS o wd = some ⟨3, 0, runN p m⟩) := Lib.hid (by
            have h := fnd_last (o := o) (wd := wd) (by have := HK.out; omega) (by rw [← HP.out]; exact hp0) (fun q hq => HQ.out q (by have := HK.out; omega))
            rw [h, ← HP.out, ← HM.out])
          have HRUN : Hid (∀ W, Calls Tryz.prog 52 #[.int .i64 p, .int .i64 m] W fun e w' => ∃ v, e = .returned v ∧ IntO W.heap.size w' v (runN p m) ∧ Below W.heap.size W w') := Lib.hid (fun W => wrun p m hp6 hm6 W)
          go_wp2_with (first | (go_at_call 52; fail))
          refine (HRUN.out w1).mono ?_
          rintro e w2 ⟨v2, rfl, hI2, hb2⟩
          obtain ⟨x2, c2, rfl⟩ := hI2.is
          have HZ2 := Lib.hid (HZ1.out.below hb2)
          have HB2 := Lib.hid (HB1.out.trans (below_le hb2 HB1.out.size))
          have HI2 := Lib.hid (hI2.mono HB1.out.size)
          have HPZ := Lib.hid (fnd_put (r := 3) (g := 0) HZ2.out (by decide) HI2.out HB2.out)
          obtain ⟨e0, e1, e2, f0, f1, f2⟩ := HZ2.out.cells
          unfold put3 at HPZ
          rw [runN_len] at HPZ ⊢
          clear hI2 hb2 HRUN HI2
          go_wp2
          refine bodyPost_ret (results_cell_tmp rfl _ _ w.heap.size 43 _ _ _ rfl HPZ.out.1 Tryz.underlying43 rfl (by kernel_rfl)) rfl ?_
          rw [HR.out]
          exact ⟨_, rfl, HPZ.out.2.1, HPZ.out.2.2⟩
end Go.Proofs.YtdehjofmangmbaaGreat
/- Walks: the reference's Stand. -/
namespace Go.Proofs.YtdehjofmangmbaaGreat
open Go.RowKit Go.Shelf
theorem besS_iff {o wd : List Bs} {x : Nat} : x ∈ besS o wd ↔ isAt o wd x = true := by
  refine ⟨fun h => (besS_mem h).2, fun h => ?_⟩
  have h2 : x + wd.length ≤ o.length := by unfold isAt at h; exact (of_decide_eq_true h).1
  unfold besS
  rw [List.mem_filter]
  exact ⟨by simp; omega, h⟩
theorem getD_mem {l : List Nat} {j : Nat} (h : j < l.length) : l.getD j 0 ∈ l := by
  rw [List.getD_eq_getElem?_getD, List.getElem?_eq_getElem h]; exact List.getElem_mem h
theorem st_ne {o wd : List Bs} (h : isAt o wd 0 = false) : wd ≠ [] := fun e => by
  subst e
  unfold isAt at h
  simp at h
theorem st_zero {o wd : List Bs} (h : isAt o wd 0 = true) : fndS o wd = some ⟨if wd.length = o.length then 0 else 1, 0, runN 0 wd.length⟩ := by
  have hm := besS_iff.2 h
  have hp := List.length_pos_of_mem hm
  refine fnd_zero hp ?_
  obtain ⟨j, hj, e⟩ := List.getElem_of_mem hm
  have := inc_span (besS_inc o wd) j hj
  have ej : (besS o wd).getD j 0 = 0 := by rw [List.getD_eq_getElem?_getD, List.getElem?_eq_getElem hj]; exact e
  omega
theorem st_same {wd : List Bs} : isAt wd wd 0 = true := by unfold isAt; simp
theorem st_len {o wd : List Bs} (h : isAt o wd 0 = true) (hne : ¬ o = wd) : ¬ wd.length = o.length := fun e => by
  unfold isAt at h
  have := (of_decide_eq_true h).2
  rw [e, List.drop_zero, List.take_length] at this
  exact hne this
theorem st_head {o wd : List Bs} (h : isAt o wd 0 = false) (hp : 0 < (besS o wd).length) : (besS o wd).getD 0 0 ≠ 0 := fun e => by
  have := besS_iff.1 (getD_mem hp)
  rw [e, h] at this
  cases this
theorem st_two {o wd : List Bs} {i : Nat} (h0 : isAt o wd 0 = false) (hi : isAt o wd i = true) (hl : ltr (o.getD (i - 1) []) = false) (hq : ∀ q, q < i → isAt o wd q = true → ltr (o.getD (q - 1) []) = true) : fndS o wd = some ⟨2, 0, runN i wd.length⟩ := by
  have hm := besS_iff.2 hi
  obtain ⟨j, hj, e⟩ := List.getElem_of_mem hm
  have ej : (besS o wd).getD j 0 = i := by rw [List.getD_eq_getElem?_getD, List.getElem?_eq_getElem hj]; exact e
  have h := fnd_hit hj (st_head h0 (by omega)) (by rw [ej]; exact hl) (fun q hqj => by
    have h1 := List.pairwise_iff_getElem.1 (besS_inc o wd) q j (by omega) hj hqj
    have eq : (besS o wd).getD q 0 = (besS o wd)[q] := by rw [List.getD_eq_getElem?_getD, List.getElem?_eq_getElem (by omega)]; rfl
    exact hq _ (by rw [eq]; omega) (besS_iff.1 (getD_mem (by omega))))
  rw [h, ej]
theorem st_three {o wd : List Bs} {i : Nat} (h0 : isAt o wd 0 = false) (hi : isAt o wd i = true) (hl : ∀ q, isAt o wd q = true → ltr (o.getD (q - 1) []) = true) (hq : ∀ q, q < i → isAt o wd q = false) : fndS o wd = some ⟨3, 0, runN i wd.length⟩ := by
  have hm := besS_iff.2 hi
  have hp := List.length_pos_of_mem hm
  have h := fnd_last hp (st_head h0 hp) (fun q hqj => hl _ (besS_iff.1 (getD_mem hqj)))
  obtain ⟨j, hj, e⟩ := List.getElem_of_mem hm
  have h1 := inc_span (besS_inc o wd) j hj
  have ej : (besS o wd).getD j 0 = i := by rw [List.getD_eq_getElem?_getD, List.getElem?_eq_getElem hj]; exact e
  have e0 : (besS o wd).getD 0 0 = i := by
    rcases Nat.lt_or_ge ((besS o wd).getD 0 0) i with q | q
    · have := besS_iff.1 (getD_mem hp)
      rw [hq _ q] at this
      cases this
    · omega
  rw [h, e0]
theorem st_four {o wd : List Bs} (h : ∀ q, q < o.length → isAt o wd q = false) (h0 : isAt o wd 0 = false) : fndS o wd = sprS o wd := by
  refine fnd_nil ?_
  cases hb : besS o wd with
  | nil => rfl
  | cons p r =>
    exfalso
    have hp : p ∈ besS o wd := by rw [hb]; simp
    obtain ⟨h1, h2⟩ := besS_mem hp
    have := List.length_pos_iff.2 (st_ne h0)
    rw [h p (by omega)] at h2
    cases h2
theorem rfd_put {T : TypeId} {w W : World} {z0 z1 z2 : Value} {x : Option Addr} {c r : Nat} {l : List Nat} (hz : C3 T W w.heap.size z0 z1 z2) (hT : T ≠ 3) (hI : IntO w.heap.size W (.slice x l.length c) l) (hB : Below w.heap.size w W) (g : Nat) :
    C3 T (put3 W w.heap.size (.bool true) (.int .i64 r) (.slice x l.length c)) w.heap.size (.bool true) (.int .i64 r) (.slice x l.length c) ∧ RfO w.heap.size (put3 W w.heap.size (.bool true) (.int .i64 r) (.slice x l.length c)) (.agg #[.bool true, .int .i64 r, .slice x l.length c]) (some ⟨r, g, l⟩) ∧ Below w.heap.size w (put3 W w.heap.size (.bool true) (.int .i64 r) (.slice x l.length c)) :=
  ⟨hz.put, ⟨x, c, rfl, hI.put3 hz hT⟩, below_put3 hB (Nat.le_refl _)⟩
set_option maxRecDepth 100000 in
set_option maxHeartbeats 1500000 in
theorem rstand (vo vw : Value) (o wd : List Bs) (ho : ∀ c ∈ o, c ≠ []) (w : World) (h1 : TxV w vo o) (h2 : TxV w vw wd) : Calls Tryz.prog 31 #[vo, vw] w (RfEnd (fndS o wd) w) := by
  have HBE := Lib.hid (fun (i : Nat) (hi : i ≤ o.length) (W : World) (hB : Below w.heap.size w W) => rbeside vo vw o wd i hi W (h1.below hB) (h2.below hB))
  have HSA := Lib.hid (fun (W : World) (hB : Below w.heap.size w W) => rsame vo vw o wd W (h1.below hB) (h2.below hB))
  have HAP := Lib.hid (fun (hw : wd ≠ []) (W : World) (hB : Below w.heap.size w W) => rapart vo vw o wd hw W (h1.below hB) (h2.below hB))
  unfold RfEnd at HAP
  have HOV := Lib.hid (fun (W : World) (hB : Below w.heap.size w W) => (h1.below hB).old)
  have HON := Lib.hid ho
  obtain ⟨xo, co, rfl, _, hn6, _⟩ := h1.old
  obtain ⟨xw, cw, rfl, _, hm6, _⟩ := h2.old
  obtain ⟨n, hn⟩ : ∃ n, n = o.length := ⟨_, rfl⟩
  have HN := Lib.hid hn
  obtain ⟨m, hm⟩ : ∃ m, m = wd.length := ⟨_, rfl⟩
  have HM := Lib.hid hm
  have HZ0 : Hid (C3 47 (w.alloc (.cells #[.bool false, .int .i64 0, .slice none 0 0] 47)) w.heap.size (.bool false) (.int .i64 0) (.slice none 0 0)) := Lib.hid (heap_alloc_new _ _)
  have HB0 : Hid (Below w.heap.size w (w.alloc (.cells #[.bool false, .int .i64 0, .slice none 0 0] 47))) := Lib.hid ((Below.refl _ _).alloc (Nat.le_refl _) _)
  have HRU := Lib.hid (fun (a : Nat) (ha : a ≤ 1000000) (W : World) => rrun a m ha (by omega) W)
  rw [← hn] at hn6 HBE HAP HOV HSA ⊢
  rw [← hm] at hm6 HBE HAP HSA ⊢
  clear h1 h2 hn hm ho
  go_enter Tryz.func31, Tryz.ntmps31
  go_wp2_with (first | (go_at_call 12; fail))
  generalize (w.alloc (.cells #[.bool false, .int .i64 0, .slice none 0 0] 47)) = W0 at HZ0 HB0 ⊢
  refine (HSA.out W0 HB0.out).mono ?_
  rintro e w1 ⟨rfl, hb1⟩
  have HB1 := Lib.hid (HB0.out.trans (below_le hb1 HB0.out.size))
  have HZ1 := Lib.hid (HZ0.out.below hb1)
  clear hb1 HSA HZ0 HB0
  obtain ⟨S, hS⟩ : ∃ S, S = decide (o = wd) := ⟨_, rfl⟩
  rw [← hS]
  cases S
  · have hne : ¬ o = wd := of_decide_eq_false hS.symm
    have HNE := Lib.hid hne
    have HBZ : Hid (∀ W, Below w.heap.size w W → Calls Tryz.prog 56 #[.slice xo n co, .slice xw m cw, .int .i64 0] W fun e w' => e = .returned (.bool (isAt o wd 0)) ∧ Below W.heap.size W w') := Lib.hid (fun W hW => HBE.out 0 (Nat.zero_le _) W hW)
    clear hS hne
    go_wp2_with (first | (go_at_call 56; fail))
    refine (HBZ.out w1 HB1.out).mono ?_
    rintro e w2 ⟨rfl, hb2⟩
    have HB2 := Lib.hid (HB1.out.trans (below_le hb2 HB1.out.size))
    have HZ2 := Lib.hid (HZ1.out.below hb2)
    clear hb2 HBZ HZ1 HB1
    obtain ⟨S, hS⟩ : ∃ S, S = isAt o wd 0 := ⟨_, rfl⟩
    rw [← hS]
    have HS0 := Lib.hid hS
    clear hS
    cases S
    · go_wp2
      have H1 : Hid (Below w.heap.size w w2 ∧ C3 47 w2 w.heap.size (.bool false) (.int .i64 0) (.slice none 0 0)) := Lib.hid ⟨HB2.out, HZ2.out⟩
      clear HB2 HZ2
      go_loopw [5] (fun iv wr => ∃ y : Nat, iv = .int .i64 ((y : Int) + 1) ∧ y ≤ n ∧ Hid (∀ q, q < y + 1 → isAt o wd q = true → ltr (o.getD (q - 1) []) = true) ∧ Hid (Below w.heap.size w wr ∧ C3 47 wr w.heap.size (.bool false) (.int .i64 0) (.slice none 0 0))) (fun iv _ => n + 1 - (intOf iv).toNat)
      case atStart => exact ⟨0, rfl, Nat.zero_le _, Lib.hid (fun q h h2 => by
        obtain rfl : q = 0 := by omega
        rw [← HS0.out] at h2; cases h2), H1⟩
      case round =>
        clear H1
        obtain ⟨y, rfl, hy, HQ, HI⟩ := hrel
        have i1 : (0 : Int) ≤ (y : Int) := by omega
        by_cases hlt : y + 1 < n
        · have i2 : (y : Int) + 1 < (n : Int) := by omega
          have hyn : y < n := by omega
          obtain ⟨xo', co', hv', _, _, hg'⟩ := HOV.out wr HI.out.1
          obtain ⟨g, off, rfl, hg, hget⟩ := hg' (List.ne_nil_of_length_pos (by have := HN.out; omega))
          obtain ⟨rfl, rfl⟩ : xo = some ⟨g, off, none⟩ ∧ co = co' := by simpa using hv'
          have cy := hget y (by have := HN.out; omega)
          have HLT := Lib.hid (fun W => rletter (o.getD y []) (HON.out _ (by rw [List.getD_eq_getElem?_getD, List.getElem?_eq_getElem (by have := HN.out; omega)]; exact List.getElem_mem _)) W)
          generalize tx (o.getD y []) = U at cy HLT
          obtain ⟨b, hb⟩ : ∃ b, b = ltr (o.getD y []) := ⟨_, rfl⟩
          rw [← hb] at HLT
          have HBT := Lib.hid hb
          clear hb hv' hg' hget
          cases b
          · have HBE2 : Hid (Calls Tryz.prog 56 #[.slice (some ⟨g, off, none⟩) n co, .slice xw m cw, .int .i64 ((y : Int) + 1)] wr fun e w' => e = .returned (.bool (isAt o wd (y + 1))) ∧ Below wr.heap.size wr w') := Lib.hid (by
              have h := HBE.out (y + 1) (by have := HN.out; omega) wr HI.out.1
              exact h)
            go_wp2_with (first | (go_at_call 57; refine (HLT.out _).mono ?_; rintro e w9 ⟨rfl, rfl⟩) | (go_at_call 56; fail))
            go_at_call 56
            refine HBE2.out.mono ?_
            rintro e w5 ⟨rfl, hb5⟩
            have HI5 : Hid (Below w.heap.size w w5 ∧ C3 47 w5 w.heap.size (.bool false) (.int .i64 0) (.slice none 0 0)) := Lib.hid ⟨HI.out.1.trans (below_le hb5 HI.out.1.size), HI.out.2.below hb5⟩
            have HB5 := Lib.hid HI5.out.1
            have HZ5 := Lib.hid HI5.out.2
            clear hb5 HBE2 cy
            obtain ⟨D, hD⟩ : ∃ D, D = isAt o wd (y + 1) := ⟨_, rfl⟩
            rw [← hD]
            have HD := Lib.hid hD
            clear hD
            cases D
            · go_wp2
              go_roundw
              case rel => exact ⟨y + 1, by go_num, by omega, Lib.hid (fun q h h2 => by
                by_cases e : q = y + 1
                · rw [e, ← HD.out] at h2; cases h2
                · exact HQ.out q (by omega) h2), HI5⟩
              case measure => simp [intOf] <;> omega
            · have HR : Hid (fndS o wd = some ⟨2, 0, runN (y + 1) m⟩) := Lib.hid (by rw [st_two HS0.out.symm HD.out.symm (by exact HBT.out.symm) HQ.out, ← HM.out])
              have HRUN : Hid (∀ W, Calls Tryz.prog 55 #[.int .i64 ((y : Int) + 1), .int .i64 m] W fun e w' => ∃ v, e = .returned v ∧ IntO W.heap.size w' v (runN (y + 1) m) ∧ Below W.heap.size W w') := Lib.hid (fun W => HRU.out (y + 1) (by omega) W)
              go_wp2_with (first | (go_at_call 55; fail))
              refine (HRUN.out w5).mono ?_
              rintro e w6 ⟨v2, rfl, hI2, hb2⟩
              obtain ⟨x2, c2, rfl⟩ := hI2.is
              have HZ6 := Lib.hid (HZ5.out.below hb2)
              have HB6 := Lib.hid (HB5.out.trans (below_le hb2 HB5.out.size))
              have HI2 := Lib.hid (hI2.mono HB5.out.size)
              have HPZ := Lib.hid (rfd_put (r := 2) HZ6.out (by decide) HI2.out HB6.out 0)
              obtain ⟨e0, e1, e2, f0, f1, f2⟩ := HZ6.out.cells
              unfold put3 at HPZ
              rw [runN_len] at HPZ ⊢
              clear hI2 hb2 HRUN HI2
              go_wp2
              refine bodyPost_ret (results_cell rfl _ _ w.heap.size 47 _ _ _ rfl HPZ.out.1 Tryz.underlying47 rfl (by kernel_rfl)) rfl ?_
              rw [HR.out]
              exact ⟨_, rfl, HPZ.out.2.1, HPZ.out.2.2⟩
          · go_wp2_with (first | (go_at_call 57; refine (HLT.out _).mono ?_; rintro e w9 ⟨rfl, rfl⟩))
            go_roundw
            case rel => exact ⟨y + 1, by go_num, by omega, Lib.hid (fun q h h2 => by
              by_cases e : q = y + 1
              · rw [e]; exact HBT.out.symm
              · exact HQ.out q (by omega) h2), HI⟩
            case measure => simp [intOf] <;> omega
        · have i2 : ¬ (y : Int) + 1 < (n : Int) := by omega
          have HAL : Hid (∀ q, isAt o wd q = true → ltr (o.getD (q - 1) []) = true) := Lib.hid (fun q h => by
            have h2 := (besS_mem (besS_iff.2 h)).1
            have h3 := List.length_pos_iff.2 (st_ne HS0.out.symm)
            exact HQ.out q (by have := HN.out; omega) h)
          clear HQ
          go_wp2
          go_loopw [6] (fun iv wr => ∃ z : Nat, iv = .int .i64 ((z : Int) + 1) ∧ z ≤ n ∧ Hid (∀ q, q < z + 1 → isAt o wd q = false) ∧ Hid (Below w.heap.size w wr ∧ C3 47 wr w.heap.size (.bool false) (.int .i64 0) (.slice none 0 0))) (fun iv _ => n + 1 - (intOf iv).toNat)
          case atStart => exact ⟨0, rfl, Nat.zero_le _, Lib.hid (fun q h => by
            obtain rfl : q = 0 := by omega
            exact HS0.out.symm), HI⟩
          case round =>
            clear HI
            obtain ⟨z, rfl, hz, HQ2, HJ⟩ := hrel
            have i3 : (0 : Int) ≤ (z : Int) := by omega
            by_cases hlt2 : z + 1 < n
            · have i4 : (z : Int) + 1 < (n : Int) := by omega
              have HBE2 : Hid (Calls Tryz.prog 56 #[.slice xo n co, .slice xw m cw, .int .i64 ((z : Int) + 1)] wr fun e w' => e = .returned (.bool (isAt o wd (z + 1))) ∧ Below wr.heap.size wr w') := Lib.hid (by
                have h := HBE.out (z + 1) (by have := HN.out; omega) wr HJ.out.1
                exact h)
              go_wp2_with (first | (go_at_call 56; fail))
              refine HBE2.out.mono ?_
              rintro e w5 ⟨rfl, hb5⟩
              have HI5 : Hid (Below w.heap.size w w5 ∧ C3 47 w5 w.heap.size (.bool false) (.int .i64 0) (.slice none 0 0)) := Lib.hid ⟨HJ.out.1.trans (below_le hb5 HJ.out.1.size), HJ.out.2.below hb5⟩
              have HB5 := Lib.hid HI5.out.1
              have HZ5 := Lib.hid HI5.out.2
              clear hb5 HBE2
              obtain ⟨D, hD⟩ : ∃ D, D = isAt o wd (z + 1) := ⟨_, rfl⟩
              rw [← hD]
              have HD := Lib.hid hD
              clear hD
              cases D
              · go_wp2
                go_roundw
                case rel => exact ⟨z + 1, by go_num, by omega, Lib.hid (fun q h => by
                  by_cases e : q = z + 1
                  · rw [e]; exact HD.out.symm
                  · exact HQ2.out q (by omega)), HI5⟩
                case measure => simp [intOf] <;> omega
              · have HR : Hid (fndS o wd = some ⟨3, 0, runN (z + 1) m⟩) := Lib.hid (by rw [st_three HS0.out.symm HD.out.symm HAL.out HQ2.out, ← HM.out])
                have HRUN : Hid (∀ W, Calls Tryz.prog 55 #[.int .i64 ((z : Int) + 1), .int .i64 m] W fun e w' => ∃ v, e = .returned v ∧ IntO W.heap.size w' v (runN (z + 1) m) ∧ Below W.heap.size W w') := Lib.hid (fun W => HRU.out (z + 1) (by omega) W)
                go_wp2_with (first | (go_at_call 55; fail))
                refine (HRUN.out w5).mono ?_
                rintro e w6 ⟨v2, rfl, hI2, hb2⟩
                obtain ⟨x2, c2, rfl⟩ := hI2.is
                have HZ6 := Lib.hid (HZ5.out.below hb2)
                have HB6 := Lib.hid (HB5.out.trans (below_le hb2 HB5.out.size))
                have HI2 := Lib.hid (hI2.mono HB5.out.size)
                have HPZ := Lib.hid (rfd_put (r := 3) HZ6.out (by decide) HI2.out HB6.out 0)
                obtain ⟨e0, e1, e2, f0, f1, f2⟩ := HZ6.out.cells
                unfold put3 at HPZ
                rw [runN_len] at HPZ ⊢
                clear hI2 hb2 HRUN HI2
                go_wp2
                refine bodyPost_ret (results_cell rfl _ _ w.heap.size 47 _ _ _ rfl HPZ.out.1 Tryz.underlying47 rfl (by kernel_rfl)) rfl ?_
                rw [HR.out]
                exact ⟨_, rfl, HPZ.out.2.1, HPZ.out.2.2⟩
            · have i4 : ¬ (z : Int) + 1 < (n : Int) := by omega
              have HR := Lib.hid (st_four (o := o) (wd := wd) (fun q h => HQ2.out q (by have := HN.out; omega)) HS0.out.symm)
              have HAP2 := Lib.hid (HAP.out (st_ne HS0.out.symm) wr HJ.out.1)
              go_wp2_with (first | (go_at_call 58; fail))
              refine HAP2.out.mono ?_
              rintro e w5 ⟨v5, rfl, ⟨x5, c5, rfl, hI5⟩, hb5⟩
              have HB5 := Lib.hid (HJ.out.1.trans (below_le hb5 HJ.out.1.size))
              have HZ5 := Lib.hid (HJ.out.2.below hb5)
              have HI5 := Lib.hid (hI5.mono HJ.out.1.size)
              obtain ⟨e0, e1, e2, f0, f1, f2⟩ := HZ5.out.cells
              have HPZ := Lib.hid (And.intro (HZ5.out.put (a' := .bool (sprS o wd).isSome) (b' := .int .i64 (fnd0 (sprS o wd)).rank) (c' := .slice x5 (fnd0 (sprS o wd)).at_.length c5)) (And.intro (HI5.out.put3 (a' := .bool (sprS o wd).isSome) (b2 := .int .i64 (fnd0 (sprS o wd)).rank) (c2 := .slice x5 (fnd0 (sprS o wd)).at_.length c5) HZ5.out (by decide)) (below_put3 (a := .bool (sprS o wd).isSome) (b := .int .i64 (fnd0 (sprS o wd)).rank) (c := .slice x5 (fnd0 (sprS o wd)).at_.length c5) HB5.out (Nat.le_refl w.heap.size))))
              unfold put3 at HPZ
              clear hI5 hb5 HAP2
              go_wp2
              refine bodyPost_ret (results_cell rfl _ _ w.heap.size 47 _ _ _ rfl HPZ.out.1 Tryz.underlying47 rfl (by kernel_rfl)) rfl ?_
              rw [HR.out]
              exact ⟨_, rfl, ⟨x5, c5, rfl, HPZ.out.2.1⟩, HPZ.out.2.2⟩
    · have HR : Hid (fndS o wd = some ⟨1, 0, runN 0 m⟩) := Lib.hid (by rw [st_zero HS0.out.symm, if_neg (st_len HS0.out.symm HNE.out), ← HM.out])
      have HRUN : Hid (∀ W, Calls Tryz.prog 55 #[.int .i64 0, .int .i64 m] W fun e w' => ∃ v, e = .returned v ∧ IntO W.heap.size w' v (runN 0 m) ∧ Below W.heap.size W w') := Lib.hid (fun W => HRU.out 0 (by omega) W)
      go_wp2_with (first | (go_at_call 55; fail))
      refine (HRUN.out w2).mono ?_
      rintro e w3 ⟨v2, rfl, hI2, hb2⟩
      obtain ⟨x2, c2, rfl⟩ := hI2.is
      have HZ3 := Lib.hid (HZ2.out.below hb2)
      have HB3 := Lib.hid (HB2.out.trans (below_le hb2 HB2.out.size))
      have HI2 := Lib.hid (hI2.mono HB2.out.size)
      have HPZ := Lib.hid (rfd_put (r := 1) HZ3.out (by decide) HI2.out HB3.out 0)
      obtain ⟨e0, e1, e2, f0, f1, f2⟩ := HZ3.out.cells
      unfold put3 at HPZ
      rw [runN_len] at HPZ ⊢
      clear hI2 hb2 HRUN HI2
      go_wp2
      refine bodyPost_ret (results_cell rfl _ _ w.heap.size 47 _ _ _ rfl HPZ.out.1 Tryz.underlying47 rfl (by kernel_rfl)) rfl ?_
      rw [HR.out]
      exact ⟨_, rfl, HPZ.out.2.1, HPZ.out.2.2⟩
  · have hwd : o = wd := of_decide_eq_true hS.symm
    have HR : Hid (fndS o wd = some ⟨0, 0, runN 0 m⟩) := Lib.hid (by rw [hwd, st_zero st_same, if_pos rfl, ← HM.out])
    have HRUN : Hid (∀ W, Calls Tryz.prog 55 #[.int .i64 0, .int .i64 m] W fun e w' => ∃ v, e = .returned v ∧ IntO W.heap.size w' v (runN 0 m) ∧ Below W.heap.size W w') := Lib.hid (fun W => HRU.out 0 (by omega) W)
    clear hwd hS
    go_wp2_with (first | (go_at_call 55; fail))
    refine (HRUN.out w1).mono ?_
    rintro e w2 ⟨v2, rfl, hI2, hb2⟩
    obtain ⟨x2, c2, rfl⟩ := hI2.is
    have HZ2 := Lib.hid (HZ1.out.below hb2)
    have HB2 := Lib.hid (HB1.out.trans (below_le hb2 HB1.out.size))
    have HI2 := Lib.hid (hI2.mono HB1.out.size)
    have HPZ := Lib.hid (rfd_put (r := 0) HZ2.out (by decide) HI2.out HB2.out 0)
    obtain ⟨e0, e1, e2, f0, f1, f2⟩ := HZ2.out.cells
    unfold put3 at HPZ
    rw [runN_len] at HPZ ⊢
    clear hI2 hb2 HRUN HI2
    go_wp2
    refine bodyPost_ret (results_cell rfl _ _ w.heap.size 47 _ _ _ rfl HPZ.out.1 Tryz.underlying47 rfl (by kernel_rfl)) rfl ?_
    rw [HR.out]
    exact ⟨_, rfl, HPZ.out.2.1, HPZ.out.2.2⟩
end Go.Proofs.YtdehjofmangmbaaGreat
/- What find gives, in bounds; walks: gaps, Rank of both sides. -/
namespace Go.Proofs.YtdehjofmangmbaaGreat
open Go.RowKit Go.Shelf
theorem runN_get {i n j : Nat} (h : j < n) : (runN i n).getD j 0 = i + j := by
  unfold runN
  rw [List.getD_eq_getElem?_getD, List.getElem?_map, List.getElem?_range h]
  rfl
theorem run_gap {i n : Nat} (h : 0 < n) : gapN (runN i n) = 0 := by
  unfold gapN
  rw [runN_len, runN_get (by omega), runN_get h]
  omega
/-- A struct of rank, gaps and places, as find may give it. -/
structure FOk (o : List Bs) (f : Fnd) : Prop where
  at_ : ∀ x ∈ f.at_, x < o.length
  rank : f.rank ≤ 4
  gaps : f.gaps ≤ o.length
  len : f.at_.length ≤ o.length
  gap : (if f.at_.length = 0 then 0 else gapN f.at_) = f.gaps
  inc : f.at_.Pairwise (· < ·)
theorem run_ok {o wd : List Bs} {i r : Nat} (h : isAt o wd i = true) (hr : r ≤ 4) : FOk o ⟨r, 0, runN i wd.length⟩ := by
  have hb : i + wd.length ≤ o.length := by unfold isAt at h; exact (of_decide_eq_true h).1
  refine ⟨fun x hx => ?_, hr, Nat.zero_le _, by rw [runN_len]; omega, ?_, ?_⟩
  · unfold runN at hx
    obtain ⟨q, hq, rfl⟩ := List.mem_map.1 hx
    have := List.mem_range.1 hq
    omega
  · simp only [runN_len]
    split
    · rfl
    · exact run_gap (by omega)
  · unfold runN
    rw [List.pairwise_map]
    exact List.Pairwise.imp (fun h => by omega) List.pairwise_lt_range
theorem inc_len {l : List Nat} {n : Nat} (h : l.Pairwise (· < ·)) (hb : ∀ x ∈ l, x < n) : l.length ≤ n := by
  rcases Nat.eq_zero_or_pos l.length with e | e
  · omega
  · have h1 := inc_span h (l.length - 1) (by omega)
    have h2 := hb (l.getD (l.length - 1) 0) (getD_mem (by omega))
    omega
theorem fnd_ok {o wd : List Bs} {f : Fnd} (h : fndS o wd = some f) : FOk o f := by
  cases hb : besS o wd with
  | nil =>
    rw [fnd_nil hb] at h
    obtain ⟨i, hc, hg, hr⟩ := spr_inv o wd _ f h
    obtain ⟨h1, h2, h3⟩ := chn_facts hc
    have hw : wd ≠ [] := fun e => by rw [e] at hb; exact besS_nil o hb
    have hwl := List.length_pos_iff.2 hw
    have hlt := inc_span h3 (f.at_.length - 1) (by omega)
    have hmx := (h2 (f.at_.getD (f.at_.length - 1) 0) (getD_mem (by omega))).2
    refine ⟨fun x hx => (h2 x hx).2, by omega, ?_, inc_len h3 (fun x hx => (h2 x hx).2), ?_, h3⟩
    · rw [hg]; unfold gapN; omega
    · rw [if_neg (by omega), hg]
  | cons p r =>
    have hp : 0 < (besS o wd).length := by rw [hb]; simp
    by_cases h0 : (besS o wd).getD 0 0 = 0
    · rw [fnd_zero hp h0] at h
      cases h
      have ha := besS_iff.1 (getD_mem hp)
      rw [h0] at ha
      exact run_ok ha (by split <;> omega)
    · by_cases hq : ∃ j, j < (besS o wd).length ∧ ltr (o.getD ((besS o wd).getD j 0 - 1) []) = false ∧ ∀ q, q < j → ltr (o.getD ((besS o wd).getD q 0 - 1) []) = true
      · obtain ⟨j, hj, h1, h2⟩ := hq
        rw [fnd_hit hj h0 h1 h2] at h
        cases h
        exact run_ok (besS_iff.1 (getD_mem hj)) (by omega)
      · have hall : ∀ q, q < (besS o wd).length → ltr (o.getD ((besS o wd).getD q 0 - 1) []) = true := by
          intro q
          induction q using Nat.strongRecOn with
          | ind q ih =>
            intro hql
            cases hl : ltr (o.getD ((besS o wd).getD q 0 - 1) []) with
            | true => rfl
            | false => exact absurd ⟨q, hql, hl, fun q' h' => ih q' h' (by omega)⟩ hq
        rw [fnd_last hp h0 hall] at h
        cases h
        exact run_ok (besS_iff.1 (getD_mem hp)) (by omega)
def rkS (opt wd : Bs) : Option Fnd := fndS (clS opt) (clS wd)
def RkEnd (b : Option Fnd) (w : World) (e : Ending) (w' : World) : Prop := e = .returned (.tuple #[.int .i64 (fnd0 b).rank, .int .i64 (fnd0 b).gaps, .bool b.isSome]) ∧ Below w.heap.size w w'
theorem ClEnd.view {l : Bs} {w : World} {e : Ending} {w' : World} (h : ClEnd l w e w') (hl : l.length ≤ 10000) : ∃ v, e = .returned v ∧ TxV w' v (clS l) ∧ Below w.heap.size w w' := by
  obtain ⟨v, h1, h2, h3⟩ := h
  exact ⟨v, h1, TxV.of_row h2 (by have := clS_len l; omega), h3⟩
set_option maxRecDepth 100000 in
set_option maxHeartbeats 1500000 in
theorem wrank (a b : Bs) (ha : a.length ≤ 10000) (hb : b.length ≤ 10000) (w : World) : Calls Tryz.prog 8 #[.string (tx a), .string (tx b)] w (RkEnd (rkS a b) w) := by
  unfold RkEnd
  have HA := Lib.hid (fun W => (wcl a ha W).mono fun e W' h => h.view ha)
  have HB := Lib.hid (fun W => (wcl b hb W).mono fun e W' h => h.view hb)
  have HF := Lib.hid (fun v1 v2 W (h1 : TxV W v1 (clS a)) (h2 : TxV W v2 (clS b)) => wfind v1 v2 (clS a) (clS b) (clS_ne a) W h1 h2)
  unfold FndEnd at HF
  have HR : Hid (fndS (clS a) (clS b) = rkS a b) := Lib.hid rfl
  rw [HR.out] at HF
  generalize rkS a b = R at HF ⊢
  generalize tx a = TA at HA ⊢
  generalize tx b = TB at HB ⊢
  clear HR ha hb
  go_enter Tryz.func8, Tryz.ntmps8
  go_wp2_with (first | (go_at_call 30; fail))
  refine (HA.out w).mono ?_
  rintro e w1 ⟨v1, rfl, h1, hb1⟩
  have HV1 := Lib.hid h1
  have HB1 := Lib.hid hb1
  obtain ⟨x1, c1, rfl, _⟩ := h1.old
  clear h1 hb1
  go_wp2_with (first | (go_at_call 30; fail))
  refine (HB.out w1).mono ?_
  rintro e w2 ⟨v2, rfl, h2, hb2⟩
  have HV2 := Lib.hid h2
  have HV1' := Lib.hid (HV1.out.below hb2)
  have HB2 := Lib.hid (HB1.out.trans (below_le hb2 HB1.out.size))
  obtain ⟨x2, c2, rfl, _⟩ := h2.old
  clear h2 hb2
  go_wp2_with (first | (go_at_call 29; fail))
  refine (HF.out _ _ w2 HV1'.out HV2.out).mono ?_
  rintro e w3 ⟨v3, rfl, hv3, hb3⟩
  obtain ⟨x3, c3, rfl, _⟩ := hv3.parts
  have HB3 : Hid (∀ o nq, Below w.heap.size w ((w3.alloc o).drewN nq)) := Lib.hid (fun o nq => by
    have h := HB2.out.trans (below_le hb3 HB2.out.size)
    exact below_drewN (h.alloc h.size o) nq)
  clear hv3 hb3
  go_wp2
  go_quiet (fail)
  go_wp2
  go_ret3
  exact ⟨rfl, HB3.out _ _⟩
end Go.Proofs.YtdehjofmangmbaaGreat
/- Walks: the reference's gaps and Rank. -/
namespace Go.Proofs.YtdehjofmangmbaaGreat
open Go.RowKit Go.Shelf
set_option maxRecDepth 100000 in
set_option maxHeartbeats 1500000 in
theorem rgaps (ok : Bool) (r : Int) (x : Option Addr) (c : Nat) (l : List Nat) (b N : Nat) (w : World) (hI : IntO b w (.slice x l.length c) l) (hN : N ≤ 1000000) (hl : ∀ y ∈ l, y < N) (hp : l.Pairwise (· < ·)) :
    Calls Tryz.prog 32 #[.agg #[.bool ok, .int .i64 r, .slice x l.length c]] w fun e w' => e = .returned (.int .i64 ((if l.length = 0 then 0 else gapN l : Nat) : Int)) ∧ Below w.heap.size w w' := by
  have HB0 : Hid (Below w.heap.size w (w.alloc (.cells #[.bool ok, .int .i64 r, .slice x l.length c] 47))) := Lib.hid ((Below.refl _ _).alloc (Nat.le_refl _) _)
  have HC0 : Hid (C3 47 (w.alloc (.cells #[.bool ok, .int .i64 r, .slice x l.length c] 47)) w.heap.size (.bool ok) (.int .i64 r) (.slice x l.length c)) := Lib.hid (heap_alloc_new _ _)
  have HI := Lib.hid (hI.below HB0.out)
  have hll := inc_len hp hl
  by_cases h0 : l.length = 0
  · rw [if_pos h0]
    rw [h0]
    clear hI HI hl hp hll h0
    go_enter Tryz.func32, Tryz.ntmps32
    go_wp2
    go_ret
    exact ⟨rfl, (Below.refl _ _).alloc (Nat.le_refl _) _⟩
  · rw [if_neg h0]
    obtain ⟨q, hq⟩ : ∃ q, l.length = q + 1 := ⟨l.length - 1, by omega⟩
    obtain ⟨hkk, g, rfl, hg, hcc, hget⟩ := HI.out.get 0 (by omega)
    clear hkk
    have hlast := hget q (by omega)
    have hfst := hget 0 (by omega)
    have hsp := inc_span hp q (by omega)
    have hbd := hl (l.getD q 0) (getD_mem (by omega))
    have HG : Hid (gapN l = l.getD q 0 - l.getD 0 0 + 1 - (q + 1)) := Lib.hid (by unfold gapN; rw [hq]; rfl)
    obtain ⟨A, hA⟩ : ∃ A, A = l.getD q 0 := ⟨_, rfl⟩
    obtain ⟨D, hD⟩ : ∃ D, D = l.getD 0 0 := ⟨_, rfl⟩
    rw [← hA] at hlast hsp hbd HG
    rw [← hD] at hfst hsp HG
    obtain ⟨G, hG⟩ : ∃ G, G = gapN l := ⟨_, rfl⟩
    rw [← hG] at HG ⊢
    have hGI : (A : Int) - (D : Int) + 1 - ((q : Int) + 1) = (G : Int) := by have := HG.out; omega
    rw [hq] at hcc hll HB0 HC0 hlast hfst ⊢
    clear hI HI hl hp h0 hget hg hA hD hG hq
    go_enter Tryz.func32, Tryz.ntmps32
    go_upto_region 4 with (fail)
    generalize (w.alloc (.cells #[.bool ok, .int .i64 r, .slice (some ⟨g, 0, none⟩) (q + 1) c] 47)) = W0 at HB0 HC0 hlast hfst ⊢
    obtain ⟨e0, e1, e2, _, _, _⟩ := HC0.out.cells
    go_quiet (fail)
    go_wp2
    go_ret
    exact ⟨rfl, below_drewN HB0.out _⟩
set_option maxRecDepth 100000 in
set_option maxHeartbeats 1500000 in
theorem rrank (a b : Bs) (ha : a.length ≤ 10000) (hb : b.length ≤ 10000) (w : World) : Calls Tryz.prog 9 #[.string (tx a), .string (tx b)] w (RkEnd (rkS a b) w) := by
  unfold RkEnd
  have HA := Lib.hid (fun W => (rcl a ha W).mono fun e W' h => h.view ha)
  have HB := Lib.hid (fun W => (rcl b hb W).mono fun e W' h => h.view hb)
  have HF := Lib.hid (fun v1 v2 W (h1 : TxV W v1 (clS a)) (h2 : TxV W v2 (clS b)) => rstand v1 v2 (clS a) (clS b) (clS_ne a) W h1 h2)
  unfold RfEnd at HF
  have HR : Hid (fndS (clS a) (clS b) = rkS a b) := Lib.hid rfl
  have HOK : Hid (∀ f, rkS a b = some f → FOk (clS a) f) := Lib.hid (fun f h => fnd_ok h)
  have HCL := Lib.hid (clS_len a)
  have HAL := Lib.hid ha
  rw [HR.out] at HF
  unfold RfO at HF
  have HNO : Hid ((rkS a b).isSome = false → (fnd0 (rkS a b)).rank = 0 ∧ (fnd0 (rkS a b)).gaps = 0) := Lib.hid (fun h => by
    cases hr : rkS a b with
    | none => exact ⟨rfl, rfl⟩
    | some f => rw [hr] at h; cases h)
  have HYE : Hid ((rkS a b).isSome = true → FOk (clS a) (fnd0 (rkS a b))) := Lib.hid (fun h => by
    cases hr : rkS a b with
    | none => rw [hr] at h; cases h
    | some f => exact HOK.out f hr)
  generalize fnd0 (rkS a b) = f at HF HNO HYE ⊢
  generalize (rkS a b).isSome = s at HF HNO HYE ⊢
  clear HOK
  generalize tx a = TA at HA ⊢
  generalize tx b = TB at HB ⊢
  clear HR ha hb
  go_enter Tryz.func9, Tryz.ntmps9
  go_wp2_with (first | (go_at_call 28; fail))
  refine (HA.out w).mono ?_
  rintro e w1 ⟨v1, rfl, h1, hb1⟩
  have HV1 := Lib.hid h1
  have HB1 := Lib.hid hb1
  obtain ⟨x1, c1, rfl, _⟩ := h1.old
  clear h1 hb1
  go_wp2_with (first | (go_at_call 28; fail))
  refine (HB.out w1).mono ?_
  rintro e w2 ⟨v2, rfl, h2, hb2⟩
  have HV2 := Lib.hid h2
  have HV1' := Lib.hid (HV1.out.below hb2)
  have HB2 := Lib.hid (HB1.out.trans (below_le hb2 HB1.out.size))
  obtain ⟨x2, c2, rfl, _⟩ := h2.old
  clear h2 hb2
  go_wp2_with (first | (go_at_call 31; fail))
  refine (HF.out _ _ w2 HV1'.out HV2.out).mono ?_
  rintro e w3 ⟨v3, rfl, ⟨x3, c3, rfl, hI3⟩, hb3⟩
  have hal : Below w3.heap.size w3 (w3.alloc (.cells #[.bool s, .int .i64 f.rank, .slice x3 f.at_.length c3] 47)) := (Below.refl _ _).alloc (Nat.le_refl _) _
  have HB3 : Hid (Below w.heap.size w (w3.alloc (.cells #[.bool s, .int .i64 f.rank, .slice x3 f.at_.length c3] 47))) := Lib.hid (by
    have h := HB2.out.trans (below_le hb3 HB2.out.size)
    exact h.alloc h.size _)
  cases s with
  | false =>
    obtain ⟨q1, q2⟩ := HNO.out rfl
    have HR1 := Lib.hid (And.intro q1 q2)
    clear hI3 hb3 hal q1 q2
    go_wp2
    go_ret3
    refine ⟨?_, HB3.out⟩
    rw [HR1.out.1, HR1.out.2]
    rfl
  | true =>
    have hok := HYE.out rfl
    have HI3 : Hid (IntO w2.heap.size (w3.alloc (.cells #[.bool true, .int .i64 f.rank, .slice x3 f.at_.length c3] 47)) (.slice x3 f.at_.length c3) f.at_) := Lib.hid (hI3.below hal)
    have HC3 : Hid (C3 47 (w3.alloc (.cells #[.bool true, .int .i64 f.rank, .slice x3 f.at_.length c3] 47)) w3.heap.size (.bool true) (.int .i64 f.rank) (.slice x3 f.at_.length c3)) := Lib.hid (heap_alloc_new _ _)
    have HB3' : Hid (Below w.heap.size w (w3.alloc (.cells #[.bool true, .int .i64 f.rank, .slice x3 f.at_.length c3] 47))) := HB3
    have HGC := Lib.hid (fun (W : World) (h : IntO w2.heap.size W (.slice x3 f.at_.length c3) f.at_) => rgaps true f.rank x3 c3 f.at_ w2.heap.size (clS a).length W h (by have := HCL.out; have := HAL.out; omega) hok.at_ hok.inc)
    rw [hok.gap] at HGC
    have hfr : f.rank ≤ 4 := hok.rank
    clear hI3 hb3 hal hok HB3
    go_upto_region 4 with (fail)
    generalize (w3.alloc (.cells #[.bool true, .int .i64 f.rank, .slice x3 f.at_.length c3] 47)) = W0 at HI3 HC3 HB3' ⊢
    generalize w3.heap.size = g at HC3 ⊢
    have HRD : Hid (∀ W, Below W0.heap.size W0 W → Below W0.heap.size W0 W ∧ W.cell? ⟨g, 0, none⟩ = some (.bool true) ∧ W.cell? ⟨g, 1, none⟩ = some (.int .i64 f.rank) ∧ W.cell? ⟨g, 2, none⟩ = some (.slice x3 f.at_.length c3)) := Lib.hid (fun W hW => by
      obtain ⟨a0, a1, a2, _⟩ := (HC3.out.below hW).cells
      exact ⟨hW, a0, a1, a2⟩)
    have HG2 : Hid (∀ W, Below W0.heap.size W0 W → Calls Tryz.prog 32 #[.agg #[.bool true, .int .i64 f.rank, .slice x3 f.at_.length c3]] W fun e w' => e = .returned (.int .i64 (f.gaps : Int)) ∧ Below W0.heap.size W0 w') := Lib.hid (fun W hW =>
      (HGC.out W (HI3.out.below hW)).mono fun e w' h => ⟨h.1, hW.trans (below_le h.2 hW.size)⟩)
    clear HGC
    go_region_held3 (fun W => Below W0.heap.size W0 W ∧ W.cell? ⟨g, 0, none⟩ = some (.bool true) ∧ W.cell? ⟨g, 1, none⟩ = some (.int .i64 f.rank) ∧ W.cell? ⟨g, 2, none⟩ = some (.slice x3 f.at_.length c3))
      (first | exact HRD.out _ (Below.refl _ _).drew | exact HRD.out _ HQ1.out)
      (first
        | (go_at_call 32; (with_reducible refine (HG2.out _ (Below.refl _ _).drew).mono ?_); rintro e y1 ⟨rfl, hb⟩; have HQ1 := Lib.hid hb; clear hb))
    all_goals
      go_wp2
      go_ret3
      exact ⟨rfl, HB3'.out.trans (below_le HQ1.out HB3'.out.size)⟩
end Go.Proofs.YtdehjofmangmbaaGreat
