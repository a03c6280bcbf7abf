/- Walks of the library's sort at uint64: pdqsort. -/
import Derived.Test.YtepjdnokkgmhoaaZ3
import Derived.Test.YtepjdnokkgmhoaaZ6
import Derived.Test.YtepjdnokkgmhoaaZ9
import Derived.Test.YtepjdnokkgmhoaaZB
import Derived.Test.YtepjdnokkgmhoaaZC
import Derived.Test.YtepjdnokkgmhoaaZD
import Derived.Deep.Cut
namespace Go.Proofs.Ytepjdnokkgmhoaa
open Go.RowKit Go.Sort Go.Proofs
theorem code_two {h : Hint} (e : hintCode h = 2) : h = .decreasing := by cases h <;> simp [hintCode] at e ⊢
theorem part8 {x y p q : Nat} (h1 : q ≤ p) (h2 : y ≤ x) : Value.bool (decide (((x : Int) - (y : Int)) / 8 ≤ (p : Int) - (q : Int))) = Value.bool (decide (p - q ≥ (x - y) / 8)) :=
  congrArg Value.bool (decide_eq_decide.2 ⟨fun h => by omega, fun h => by omega⟩)
set_option maxHeartbeats 8000000 in
set_option maxRecDepth 1000000 in
theorem uPdq : ∀ (N blk off cap a b limit : Nat) (d : Array Int) (w : World), b - a < N → Holds encU w blk off d → blk < w.heap.size → a ≤ b → b ≤ d.size → d.size < 4611686018427387904 → limit < 4611686018427387904 → Below ltInt a b d →
    Calls Try.prog 56 #[.slice (some ⟨blk, off, none⟩) d.size cap, .int .i64 a, .int .i64 b, .int .i64 limit] w fun e w' => e = .returned (.tuple #[]) ∧ At encU w blk off (pdq ltInt d a b limit true true) w' := by
  intro N
  induction N with
  | zero => intro _ _ _ _ _ _ _ _ h; exact absurd h (Nat.not_lt_zero _)
  | succ N ih =>
    intro blk off cap a b limit d w hN hH hblk hab hb hsz hlimit hBel0
    obtain ⟨R, hR⟩ : ∃ R, pdq ltInt d a b limit true true = R := ⟨_, rfl⟩
    rw [hR]
    have HR := Lib.hid hR
    have HHO := Lib.hid hH
    have HA0 : Hid (At encU w blk off d w) := Lib.hid (At.refl hH)
    have IH := Lib.hid ih
    have HB0 := Lib.hid hBel0
    clear hR hH ih hBel0
    go_enter Try.func56, Try.ntmps56
    go_wp2_with fail
    go_loopg [1, 2, 3, 8, 9] (b - a) (fun g s1 s2 s3 s8 s9 wr => ∃ (a' b' lim : Nat) (wb wp : Bool) (D : Array Int), s1 = .int .i64 a' ∧ s2 = .int .i64 b' ∧ s3 = .int .i64 lim ∧ s8 = .bool wb ∧ s9 = .bool wp ∧
      a' ≤ b' ∧ b' ≤ d.size ∧ b' - a' ≤ g ∧ g ≤ b - a ∧ lim ≤ limit ∧ D.size = d.size ∧ Hid (Below ltInt a' b' D) ∧ Hid (At encU w blk off D wr) ∧ Hid (pdq ltInt D a' b' lim wb wp = R))
    case atStart => exact ⟨a, b, limit, true, true, d, rfl, rfl, rfl, rfl, rfl, hab, hb, Nat.le_refl _, Nat.le_refl _, Nat.le_refl _, rfl, HB0, HA0, HR⟩
    case round =>
      clear HB0 HA0 HR
      obtain ⟨a', b', lim, wb, wp, D, rfl, rfl, rfl, rfl, rfl, hab', hb', hk, hkN, hlim, hds, HB, HA, HE⟩ := hrel
      by_cases h12 : b' - a' ≤ 12
      · have h12z : (b' : Int) - (a' : Int) ≤ 12 := by omega
        have hc := uInsertion blk off cap a' b' D wr (HA.out.holds HHO.out hds hblk).1 hab' (by omega) (by omega)
        rw [hds] at hc
        have HC := Lib.hid hc
        clear hc
        go_wp2_with (go_at_call 58; refine HC.out.mono ?_; rintro e w1 ⟨rfl, hw1⟩)
        (try simp only [Exit.inBlock, Exit.then]); refine bodyPost_ret (results_none rfl _ _ _) rfl ?_
        refine ⟨rfl, ?_⟩
        rw [← HE.out, pdq_small h12]
        exact HA.out.step hblk (insertionSort_holds swo_ltInt D a' b' hab' (by omega)).1.1 hw1
      · have h12z : ¬ ((b' : Int) - (a' : Int) ≤ 12) := by omega
        by_cases hl0 : lim = 0
        · have hl0z : (lim : Int) = 0 := by omega
          have hc := uHeap blk off cap a' b' D wr (HA.out.holds HHO.out hds hblk).1 hab' (by omega) (by omega)
          rw [hds] at hc
          have HC := Lib.hid hc
          clear hc
          go_wp2_with (go_at_call 59; refine HC.out.mono ?_; rintro e w1 ⟨rfl, hw1⟩)
          (try simp only [Exit.inBlock, Exit.then]); refine bodyPost_ret (results_none rfl _ _ _) rfl ?_
          refine ⟨rfl, ?_⟩
          rw [← HE.out, pdq_heap h12 hl0]
          exact HA.out.step hblk (heapSort_holds swo_ltInt D a' b' hab' (by omega)).1.1 hw1
        · have hl0z : ¬ ((lim : Int) = 0) := by omega
          obtain ⟨Q, hQ⟩ := rdF h12 hl0 (show b' ≤ D.size by omega) HB.out HE.out
          have hQ1 := hQ.s1
          have hQ2 := hQ.s2
          have hQ3 := hQ.s3
          have hQc := hQ.cr
          have hQp := hQ.pr
          have hQl := hQ.ll
          have HQ := Lib.hid hQ
          clear hQ HE HB
          -- the ways through the first test meet
          go_upto_if 35 with fail
          go_cut [3] from 19 (fun s3 wc => s3 = .int .i64 Q.lim ∧ Hid (At encU w blk off Q.d1 wc))
          case first =>
            obtain ⟨hHk, hblk'⟩ := HA.out.holds HHO.out hds hblk
            cases wb
            · have hc := uBreak blk off cap a' b' D wr hHk hblk' hab' (by omega) (by omega)
              rw [hds] at hc
              have HC := Lib.hid hc
              clear hc hHk
              go_wp2_with (go_at_call 60; refine HC.out.mono ?_; rintro e w1 ⟨rfl, hw1⟩)
              go_meet
              case rel =>
                obtain ⟨e1, e2⟩ := HQ.out.f1 rfl
                refine ⟨?_, Lib.hid (by rw [e1]; exact HA.out.stepG hblk (by rw [← e1]; exact hQ1) hw1)⟩
                rw [e2]
                congr 1
                omega
            · clear hHk
              go_wp2_with fail
              go_meet
              case rel =>
                obtain ⟨e1, e2⟩ := HQ.out.f2 rfl
                exact ⟨by rw [e2], by rw [e1]; exact HA⟩
          case rest =>
            clear HA
            obtain ⟨rfl, HA1⟩ := hcut
            have HC : Hid (Calls Try.prog 61 #[.slice (some ⟨blk, off, none⟩) d.size cap, .int .i64 a', .int .i64 b'] wc fun e w' => e = .returned (.tuple #[.int .i64 Q.c.1, .int .i64 (hintCode Q.c.2)]) ∧ ∃ n os, w' = grow (Sort.ahead wc n) os) := Lib.hid (by
              obtain ⟨hH1, hblk1⟩ := HA1.out.holds HHO.out (hQ1.trans hds) hblk
              have := uPivot blk off cap a' b' Q.d1 wc hH1 hblk1 (by omega) (by omega) (by omega)
              rw [hQ1, hds, ← HQ.out.f3] at this
              exact this)
            go_upto_if 50 with (go_at_call 61; refine HC.out.mono ?_; rintro e w2 ⟨rfl, hw2⟩)
            have HA2 : Hid (At encU w blk off Q.d1 w2) := Lib.hid (HA1.out.same HHO.out (hQ1.trans hds) hblk hw2)
            clear HC HA1 hw2
            go_cut [11, 12] from 19 (fun s11 s12 wc => s11 = .int .i64 Q.pivot ∧ s12 = .int .i64 (hintCode Q.hint) ∧ Hid (At encU w blk off Q.d2 wc))
            case first =>
              by_cases hh : Q.c.2 = .decreasing
              · have hcode : hintCode Q.c.2 = 2 := by rw [hh]; rfl
                have hc := uReverse blk off cap a' b' Q.d1 w2 (HA2.out.holds HHO.out (hQ1.trans hds) hblk).1 hab' (by omega) (by omega)
                rw [hQ1, hds] at hc
                have HC := Lib.hid hc
                clear hc
                go_wp2_with (go_at_call 62; refine HC.out.mono ?_; rintro e w3 ⟨rfl, hw3⟩)
                go_meet
                case rel =>
                  obtain ⟨e2, epv, eht⟩ := HQ.out.f4 hh
                  refine ⟨?_, by rw [eht]; rfl, Lib.hid (by rw [e2]; exact HA2.out.step hblk (by rw [← e2, hQ2, hQ1]) hw3)⟩
                  rw [epv]
                  congr 1
                  omega
              · have hcode : ¬ (hintCode Q.c.2 = 2) := fun h => hh (code_two h)
                go_wp2_with fail
                go_meet
                case rel =>
                  obtain ⟨e2, epv, eht⟩ := HQ.out.f5 hh
                  exact ⟨by rw [epv], by rw [eht], by rw [e2]; exact HA2⟩
            case rest =>
              clear HA2
              obtain ⟨rfl, rfl, HA3⟩ := hcut
              go_upto_region 15 with fail
              go_cut [12, 68] from 19 (fun s12 s68 wx => s12 = .int .i64 (hintCode Q.hint) ∧ s68 = .bool (wb && wp && decide (Q.hint = .increasing)) ∧ wx = wc)
              case first =>
                cases wb <;> cases wp <;> cases hh3 : Q.hint <;>
                  (have hcode3 := congrArg hintCode hh3
                   simp only [hintCode] at hcode3
                   go_wp2_with fail
                   go_meet
                   exact ⟨by simp [hh3, hintCode], by simp [hh3, hintCode], rfl⟩)
              case rest =>
                obtain ⟨rfl, rfl, rfl⟩ := hcut
                go_upto_if 68 with fail
                go_cut [] from 19 (fun wx => Q.pi.2 = false ∧ Hid (At encU w blk off Q.pi.1 wx))
                case first =>
                  cases h68 : (wb && wp && decide (Q.hint = .increasing))
                  · have epi := HQ.out.f7 h68
                    go_wp2_with fail
                    go_meet
                    case rel => exact ⟨by rw [epi], by rw [epi]; exact HA3⟩
                  · have epi := HQ.out.f6 h68
                    have hc := uPartial blk off cap a' b' Q.d2 wc (HA3.out.holds HHO.out (hQ2.trans hds) hblk).1 (by omega) (by omega) (by omega)
                    rw [hQ2, hds, ← epi] at hc
                    have HC := Lib.hid hc
                    clear hc epi
                    go_wp2_with (go_at_call 63; refine HC.out.mono ?_; rintro e w4 ⟨rfl, hw4⟩)
                    all_goals have HA4 : Hid (At encU w blk off Q.pi.1 w4) := Lib.hid (HA3.out.step hblk (by rw [hQ3, hQ2]) hw4)
                    all_goals first
                      | (have hp2 : Q.pi.2 = false := by assumption
                         go_meet
                         exact ⟨hp2, HA4⟩)
                      | (have hp2 : Q.pi.2 = true := by assumption
                         (try simp only [Exit.inBlock, Exit.then]); refine bodyPost_ret (results_none rfl _ _ _) rfl ?_
                         refine ⟨rfl, ?_⟩
                         rw [HQ.out.done hp2]
                         exact HA4.out)
                case rest =>
                  clear HA3
                  obtain ⟨hp2, HA5⟩ := hcut
                  obtain ⟨G, hG⟩ : ∃ G : Nat → Int, ∀ t, Q.pi.1[t]! = G t := ⟨fun t => Q.pi.1[t]!, fun _ => rfl⟩
                  have hcw : ∀ t, t < d.size → wc.cell? ⟨blk, off + t, none⟩ = some (.int .u64 (G t)) := fun t ht => by
                    rw [← hG]; exact ((HA5.out.holds HHO.out (hQ3.trans hds) hblk).1 t (by omega)).1
                  have hfw : ∀ t, t < d.size → wc.frozen? ⟨blk, off + t, none⟩ = false := fun t ht => ((HA5.out.holds HHO.out (hQ3.trans hds) hblk).1 t (by omega)).2
                  have HG := Lib.hid hG
                  clear hG
                  go_upto_region 17 with fail
                  go_cut [87] from 19 (fun s87 wx => s87 = .bool (decide (a' > 0) && !ltInt (G (a' - 1)) (G Q.pivot)) ∧ Hid (At encU w blk off Q.pi.1 wx))
                  case first =>
                    rcases Nat.eq_zero_or_pos a' with ha0 | ha0
                    · have ha0z : decide ((a' : Int) > 0) = false := decide_eq_false (by omega)
                      go_big_quiet (first | (go_at_call 64; refine Calls.quiet_of_same (uLess _ _ _)))
                      go_wp2_with fail
                      go_meet
                      case rel => exact ⟨by simp [ha0], Lib.hid (HA5.out.ahead nq)⟩
                    · have ha0z : (a' : Int) > 0 := by omega
                      go_big_quiet (first | (go_at_call 64; refine Calls.quiet_of_same (uLess _ _ _)))
                      go_wp2_with fail
                      go_meet
                      case rel => exact ⟨by simp [ha0], Lib.hid (HA5.out.ahead nq)⟩
                  case rest =>
                    clear HA5 hcw hfw
                    obtain ⟨rfl, HA6⟩ := hcut
                    cases h87 : (decide (a' > 0) && !ltInt (G (a' - 1)) (G Q.pivot))
                    · obtain ⟨mid, ap, d4, hx⟩ : ∃ mid ap d4, partition ltInt Q.pi.1 a' b' Q.pivot = (mid, ap, d4) := ⟨(partition ltInt Q.pi.1 a' b' Q.pivot).1, (partition ltInt Q.pi.1 a' b' Q.pivot).2.1, (partition ltInt Q.pi.1 a' b' Q.pivot).2.2, rfl⟩
                      obtain ⟨r1, r2, r3, r4, r5, r6, r7⟩ := HQ.out.part hp2 (by rw [HG.out, HG.out]; exact h87) mid ap d4 hx
                      have hc := uPart blk off cap a' b' Q.pivot Q.pi.1 wc (HA6.out.holds HHO.out (hQ3.trans hds) hblk).1 hQp.1 hQp.2 (by omega) (by omega)
                      rw [hQ3, hds, hx] at hc
                      have HC := Lib.hid hc
                      have HR4 := Lib.hid r4
                      have HR5 := Lib.hid r5
                      have HR6 := Lib.hid r6
                      have HR7 := Lib.hid r7
                      clear hc hx r4 r5 r6 r7
                      go_upto_if 113 with (go_at_call 66; refine HC.out.mono ?_; rintro e w7 ⟨rfl, hw7⟩)
                      have HA7 : Hid (At encU w blk off d4 w7) := Lib.hid (HA6.out.step hblk (by rw [r3, hQ3]) hw7)
                      clear HC HA6 hw7
                      by_cases h4 : mid - a' < b' - mid
                      · have h4z : (mid : Int) - (a' : Int) < (b' : Int) - (mid : Int) := by omega
                        obtain ⟨L, hL⟩ : ∃ L, L = pdq ltInt d4 a' mid Q.lim true true := ⟨_, rfl⟩
                        obtain ⟨sL, bL, rL⟩ := HR6.out h4 L hL
                        obtain ⟨hH7, hblk7⟩ := HA7.out.holds HHO.out (r3.trans hds) hblk
                        have hc := IH.out blk off cap a' mid Q.lim d4 w7 (by omega) hH7 hblk7 (by omega) (by omega) (by omega) (by omega) HR4.out
                        rw [r3, hds, ← hL] at hc
                        have HC := Lib.hid hc
                        have HBL := Lib.hid bL
                        have HRL := Lib.hid rL
                        clear hc hL hH7 bL rL
                        go_wp2_with (go_at_call 56; refine HC.out.mono ?_; rintro e w8 ⟨rfl, hw8⟩)
                        go_roundg (b' - (mid + 1))
                        case measure => omega
                        case rel =>
                          refine ⟨mid + 1, b', Q.lim, decide (mid - a' ≥ (b' - a') / 8), ap, L, by simp, rfl, rfl, part8 (by omega) (by omega), rfl, by omega, by omega, Nat.le_refl _, by omega, by omega, by rw [sL, hds], HBL, Lib.hid (HA7.out.stepG hblk (by rw [sL, r3]) hw8), Lib.hid HRL.out.symm⟩
                      · have h4z : ¬ ((mid : Int) - (a' : Int) < (b' : Int) - (mid : Int)) := by omega
                        obtain ⟨L, hL⟩ : ∃ L, L = pdq ltInt d4 (mid + 1) b' Q.lim true true := ⟨_, rfl⟩
                        obtain ⟨sL, bL, rL⟩ := HR7.out h4 L hL
                        obtain ⟨hH7, hblk7⟩ := HA7.out.holds HHO.out (r3.trans hds) hblk
                        have hc := IH.out blk off cap (mid + 1) b' Q.lim d4 w7 (by omega) hH7 hblk7 (by omega) (by omega) (by omega) (by omega) HR5.out
                        rw [r3, hds, ← hL] at hc
                        have HC := Lib.hid hc
                        have HBL := Lib.hid bL
                        have HRL := Lib.hid rL
                        clear hc hL hH7 bL rL
                        go_wp2_with (go_at_call 56; refine HC.out.mono ?_; rintro e w8 ⟨rfl, hw8⟩)
                        go_roundg (mid - a')
                        case measure => omega
                        case rel =>
                          refine ⟨a', mid, Q.lim, decide (b' - mid ≥ (b' - a') / 8), ap, L, rfl, rfl, rfl, part8 (by omega) (by omega), rfl, by omega, by omega, Nat.le_refl _, by omega, by omega, by rw [sL, hds], HBL, Lib.hid (HA7.out.stepG hblk (by rw [sL, r3]) hw8), Lib.hid HRL.out.symm⟩
                    · obtain ⟨mid, d4, hx⟩ : ∃ mid d4, partitionEqual ltInt Q.pi.1 a' b' Q.pivot = (mid, d4) := ⟨(partitionEqual ltInt Q.pi.1 a' b' Q.pivot).1, (partitionEqual ltInt Q.pi.1 a' b' Q.pivot).2, rfl⟩
                      obtain ⟨r1, r2, r3, r4, r5⟩ := HQ.out.eq hp2 (by rw [HG.out, HG.out]; exact h87) mid d4 hx
                      have hc := uPartEq blk off cap a' b' Q.pivot Q.pi.1 wc (HA6.out.holds HHO.out (hQ3.trans hds) hblk).1 hQp.1 hQp.2 (by omega) (by omega)
                      rw [hQ3, hds, hx] at hc
                      have HC := Lib.hid hc
                      have HR4 := Lib.hid r4
                      have HR5 := Lib.hid r5
                      clear hc hx r4 r5
                      go_wp2_with (go_at_call 65; refine HC.out.mono ?_; rintro e w7 ⟨rfl, hw7⟩)
                      go_roundg (b' - mid)
                      case measure => omega
                      case rel =>
                        exact ⟨mid, b', Q.lim, wb, wp, d4, rfl, rfl, rfl, rfl, rfl, r2, hb', Nat.le_refl _, by omega, by omega, by rw [r3, hds], HR4, Lib.hid (HA6.out.step hblk (by rw [r3, hQ3]) hw7), Lib.hid HR5.out.symm⟩
end Go.Proofs.Ytepjdnokkgmhoaa
