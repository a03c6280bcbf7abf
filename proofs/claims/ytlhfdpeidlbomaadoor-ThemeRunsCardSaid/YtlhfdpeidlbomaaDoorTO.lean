/- Walk: the reference's line. -/
import Derived.Test.YtlhfdpeidlbomaaDoorTN
namespace Go.Proofs.YtlhfdpeidlbomaaDoor
open Go.RowKit Go.Shelf
def rlK (l : Bs) : Int := match cut1 32 l with
  | some p => plI p.1
  | none => 0
def rlY (l : Bs) : Sty := match cut1 32 l with
  | some p => styS p.2
  | none => sty0
def rlB (l : Bs) : Bool := match cut1 32 l with
  | some p => plB p.1 && okS p.2
  | none => false
theorem rlB_eq (l : Bs) : rlB l = lnB l := by
  unfold rlB lnB lnPart lnWords
  cases cut1 32 l with
  | some p => rfl
  | none => simp [okS_nil]
theorem rl_of (l : Bs) (h : rlB l = true) : rlK l = (lnK l : Int) ∧ rlY l = lnY l := by
  unfold rlB at h
  unfold rlK rlY lnK lnY lnPart lnWords
  cases hc : cut1 32 l with
  | some p => exact ⟨by have := pl_in p.1; simp only []; omega, rfl⟩
  | none => rw [hc] at h; cases h
theorem rlK_in (l : Bs) : 0 ≤ rlK l ∧ rlK l < 10 := by
  unfold rlK
  cases cut1 32 l with
  | some p => exact pl_in p.1
  | none => simp
theorem results_3 {P : Program} {fn : Func} {p q r : Tmp} {ty : TypeId} (h : fn.results = #[.tmp q, .cell p ty, .tmp r]) (tmps : Array Value) (w : World) (g : Nat) (t : TypeId) (cs : Array Value) (fr : Nat × Nat) (d : TypeDesc)
    (hp : tmps.getD p undef = .pointer (some ⟨g, 0, none⟩)) (hg : w.heap[g]? = some (.cells cs t fr))
    (hu : P.underlying ty = some d) (hd : (match d with | .struct _ | .array _ _ => true | _ => false) = true) (hi : (P.info? ty).map (·.size) = some cs.size) :
    (results fn tmps).run P w = .ok (.tuple #[tmps.getD q undef, .agg cs, tmps.getD r undef]) w := by
  have hp' : tmps[p]?.getD undef = .pointer (some ⟨g, 0, none⟩) := by simpa using hp
  simp [results, h, hp', asAddr, run_loadVar_row w g t ty cs fr d hg hu hd hi]
def LineEnd (l : Bs) (w : World) (e : Ending) (w' : World) : Prop := e = .returned (.tuple #[.int .i64 (rlK l), (rlY l).v, .bool (rlB l)]) ∧ Below w.heap.size w w'
set_option maxRecDepth 100000 in
set_option maxHeartbeats 4000000 in
theorem wline (s : Bs) (hs : s.length ≤ 1000000) (w : World) : Calls Tryd.prog 32 #[.string (tx s)] w (LineEnd s w) := by
  have H0 := Lib.hid (SR.start w)
  unfold styCells sty0 at H0
  simp only [] at H0
  have hsz := tx_size s
  have hsm : (tx s).size ≤ 1000000 := by omega
  have HSZ := Lib.hid hsz
  clear hsz
  go_enter Tryd.func32, Tryd.ntmps32
  go_wp2
  generalize w.alloc (.cells #[.bool false, .bool false, .bool false, .int .i64 0, .int .i64 0] 23) = w1 at H0 ⊢
  go_loop [5] (fun i => ∃ k : Nat, k ≤ (tx s).size ∧ i = .int .i64 k ∧ Hid ((32 : UInt8) ∉ s.take k)) (fun i => (tx s).size - (intOf i).toNat)
  case atStart => exact ⟨0, Nat.zero_le _, rfl, Lib.hid (by simp)⟩
  case round =>
    obtain ⟨k, hk, rfl, HN⟩ := hrel
    by_cases hlt : k < (tx s).size
    · have hsl : k < s.length := by rw [← HSZ.out]; exact hlt
      have hbyte := tx_byte s k hlt hsl
      have i1 : (0 : Int) ≤ (k : Int) := by omega
      have i3 : (k : Int) ≤ ((tx s).size : Int) := by omega
      have i4 : (k : Int) + 1 ≤ ((tx s).size : Int) := by omega
      by_cases hc : s[k]'hsl = 32
      · have hb : ((((tx s)[k]'hlt).toNat : Int) == 32) = true := by rw [hbyte, hc]; rfl
        have hcut : cut1 32 s = some (s.take k, s.drop (k + 1)) := by
          have e : s = s.take k ++ 32 :: s.drop (k + 1) := by
            conv => lhs; rw [← List.take_append_drop k s, List.drop_eq_getElem_cons hsl, hc]
          conv => lhs; rw [e]
          exact cut1_app 32 _ _ HN.out
        have HE1 : Hid ((tx s).extract 0 k = tx (s.take k)) := Lib.hid (by rw [tx_extract]; simp)
        have HE2 := Lib.hid (tx_from s (k + 1))
        have hK : rlK s = plI (s.take k) := by unfold rlK; rw [hcut]
        have hY : rlY s = styS (s.drop (k + 1)) := by unfold rlY; rw [hcut]
        have hB : rlB s = (plB (s.take k) && okS (s.drop (k + 1))) := by unfold rlB; rw [hcut]
        have HP := Lib.hid (fun W => wplaceR (s.take k) W)
        have HS := Lib.hid (fun W => wstyleR (s.drop (k + 1)) W)
        have HER := Lib.hid (show errS (s.drop (k + 1)) = if okS (s.drop (k + 1)) = true then 0 else 310 from rfl)
        unfold StyleEnd at HS
        rw [← HE1.out] at HP
        rw [← HE2.out] at HS
        obtain ⟨kk, hkk⟩ : ∃ x, x = plI (s.take k) := ⟨_, rfl⟩
        obtain ⟨pb, hpb⟩ : ∃ x, x = plB (s.take k) := ⟨_, rfl⟩
        obtain ⟨y, hy⟩ : ∃ x, x = styS (s.drop (k + 1)) := ⟨_, rfl⟩
        obtain ⟨er, her⟩ : ∃ x, x = errS (s.drop (k + 1)) := ⟨_, rfl⟩
        obtain ⟨ob, hob⟩ : ∃ x, x = okS (s.drop (k + 1)) := ⟨_, rfl⟩
        rw [← hkk] at HP hK
        rw [← hpb] at HP hB
        rw [← hy] at HS hY
        rw [← her] at HS HER
        rw [← hob] at HER hB
        have HK := Lib.hid hK
        have HY := Lib.hid hY
        have HB := Lib.hid hB
        clear hK hY hB hkk hpb hy her hob hcut hbyte hc HE1 HE2 HN
        go_wp2_with (first | (go_at_call 18; fail))
        go_at_call 18
        refine (HP.out _).mono ?_
        rintro e w2 ⟨rfl, hb2⟩
        have H2 := Lib.hid (H0.out.kept hb2)
        clear hb2 HP
        go_wp2_with (first | (go_at_call 10; fail))
        go_at_call 10
        refine (HS.out _).mono ?_
        rintro e w3 ⟨rfl, hb3⟩
        have H3 := Lib.hid ((H2.out.kept hb3).kept ((Below.refl _ _).alloc (Nat.le_refl _) (.cells (styCells y) 23)))
        have HYB : Hid (StyAt (w3.alloc (.cells (styCells y) 23)) w3.heap.size y) := Lib.hid (heap_alloc_new _ _)
        clear hb3 HS H2
        obtain ⟨yb, yu, yi, yf, yg⟩ := y
        unfold Sty.v
        unfold styCells at H3 HYB
        simp only [] at H3 HYB ⊢
        go_upto_region 7 with (fail)
        generalize w3.alloc (.cells #[.bool yb, .bool yu, .bool yi, .int .i64 yf, .int .i64 yg] 23) = w4 at H3 HYB ⊢
        obtain ⟨c0, c1, c2, c3, c4, _, _⟩ := HYB.out.get
        obtain ⟨d0, d1, d2, d3, d4, df, _⟩ := H3.out.res.get
        have f0 := df 0
        have f1 := df 1
        have f2 := df 2
        have f3 := df 3
        have f4 := df 4
        simp only [] at c0 c1 c2 c3 c4
        have HR := Lib.hid (H3.out.res.stored ⟨yb, yu, yi, yf, yg⟩)
        have HBL := Lib.hid (below_stored H3.out.bel (b := w.heap.size) (Nat.le_refl _) (v0 := .bool yb) (v1 := .bool yu) (v2 := .bool yi) (v3 := .int .i64 yf) (v4 := .int .i64 yg))
        simp only [] at HR
        clear df
        cases pb
        · go_region
          all_goals
            go_wp2
            refine bodyPost_ret (results_3 rfl _ _ w.heap.size 23 (styCells ⟨yb, yu, yi, yf, yg⟩) (0, 0) _ rfl HR.out Tryd.underlying23 rfl (by kernel_rfl)) rfl ?_
            exact ⟨by rw [HK.out, HY.out, HB.out]; rfl, HBL.out.drew⟩
        · cases ob
          · have her : er = 310 := HER.out
            subst her
            clear HER
            go_region
            all_goals
              go_wp2
              refine bodyPost_ret (results_3 rfl _ _ w.heap.size 23 (styCells ⟨yb, yu, yi, yf, yg⟩) (0, 0) _ rfl HR.out Tryd.underlying23 rfl (by kernel_rfl)) rfl ?_
              exact ⟨by rw [HK.out, HY.out, HB.out]; rfl, HBL.out.drew⟩
          · have her : er = 0 := HER.out
            subst her
            clear HER
            go_region
            all_goals
              go_wp2
              refine bodyPost_ret (results_3 rfl _ _ w.heap.size 23 (styCells ⟨yb, yu, yi, yf, yg⟩) (0, 0) _ rfl HR.out Tryd.underlying23 rfl (by kernel_rfl)) rfl ?_
              exact ⟨by rw [HK.out, HY.out, HB.out]; rfl, HBL.out.drew⟩
      · have hb : ((((tx s)[k]'hlt).toNat : Int) == 32) = false := by
          rw [hbyte, beq_eq_false_iff_ne]
          intro q
          exact hc (UInt8.toNat_inj.1 (by have : (32 : UInt8).toNat = 32 := rfl; omega))
        have HN2 : Hid ((32 : UInt8) ∉ s.take (k + 1)) := Lib.hid (by
          rw [List.take_succ_eq_append_getElem hsl, List.mem_append]
          rintro (q | q)
          · exact HN.out q
          · simp at q; exact hc q.symm)
        clear hbyte hc hsl
        go_wp2
        go_round
        case rel => exact ⟨k + 1, by omega, by go_num, HN2⟩
        case measure => simp [intOf]; omega
    · obtain rfl : k = (tx s).size := by omega
      have hn : (32 : UInt8) ∉ s := by have := HN.out; rwa [HSZ.out, List.take_of_length_le (Nat.le_refl _)] at this
      have hcut := cut1_not 32 s hn
      have HF : Hid (rlK s = 0 ∧ rlY s = sty0 ∧ rlB s = false) := Lib.hid ⟨by unfold rlK; rw [hcut], by unfold rlY; rw [hcut], by unfold rlB; rw [hcut]⟩
      clear hn hcut
      obtain ⟨d0, d1, d2, d3, d4, df, _⟩ := H0.out.res.get
      have f0 := df 0
      have f1 := df 1
      have f2 := df 2
      have f3 := df 3
      have f4 := df 4
      have HR := Lib.hid (H0.out.res.stored sty0)
      have HBL := Lib.hid (below_stored H0.out.bel (b := w.heap.size) (Nat.le_refl _) (v0 := .bool sty0.b) (v1 := .bool sty0.u) (v2 := .bool sty0.i) (v3 := .int .i64 sty0.f) (v4 := .int .i64 sty0.g))
      clear df
      go_wp2
      refine bodyPost_ret (results_3 rfl _ _ w.heap.size 23 (styCells sty0) (0, 0) _ rfl HR.out Tryd.underlying23 rfl (by kernel_rfl)) rfl ?_
      exact ⟨by rw [HF.out.1, HF.out.2.1, HF.out.2.2]; rfl, HBL.out⟩
end Go.Proofs.YtlhfdpeidlbomaaDoor
