/- Runs: the law over a tally: the walk. -/
import Derived.Test.YtcbdmaffcjdnbaaS19
import Derived.Deep.QuietTactic
import Derived.BigQuiet
namespace Go.Proofs.Ytcbdmaffcjdnbaa
open Go.RowKit Go.Shelf Go.Maps
theorem SeesK.keep {w w' : World} {x : Option Addr} {n : Nat} {ks : List Kd} (h : SeesK w x n ks) (hB : Below w.heap.size w w') : SeesK w' x n ks := fun hp => by
  obtain ⟨g, rfl, hg, hc⟩ := h hp
  exact ⟨g, rfl, by have := hB.size; omega, fun i hi => ⟨(hB.cell (p := ⟨g, _, none⟩) hg).trans (hc i hi).1, (hB.cell (p := ⟨g, _, none⟩) hg).trans (hc i hi).2⟩⟩
theorem kbox_get {w : World} {j : Nat} {s : ByteArray} {c a t : Int} (h : w.heap[j]? = some (.cells #[.string s, .int .i64 c, .int .i64 a, .int .i64 t] 56 (0, 0))) : w.cell? ⟨j, 1, none⟩ = some (.int .i64 c) ∧ w.cell? ⟨j, 2, none⟩ = some (.int .i64 a) ∧ w.cell? ⟨j, 3, none⟩ = some (.int .i64 t) :=
  ⟨by simp [World.cell?, h], by simp [World.cell?, h], by simp [World.cell?, h]⟩
theorem quiet_sym {P : Program} {f : FuncId} {args : Array Value} {w : World} {n : Nat} {v : Value}
    (h : Calls P f args (w.drewN n) fun e w' => e = .returned v ∧ w.drewN n = w') : Calls P f args (w.drewN n) fun e w'' => e = .returned v ∧ ∃ m, w'' = w.drewN m :=
  h.mono fun _ _ ⟨he, hm⟩ => ⟨he, n, hm.symm⟩
set_option maxRecDepth 100000 in
set_option maxHeartbeats 16000000 in
theorem runs_good (W H : Int) (x : Option Addr) (n cap : Nat) (os : List OpD) (w : World) (hx : OpsV w x n os) (hE : bndE W H = 0) : Calls Try.prog 5 #[.int .i64 W, .int .i64 H, .slice x n cap] w (LawEnd w) := by
  have HN := Lib.hid (fun w => show Calls Try.prog 20 #[.int .i64 W, .int .i64 H] w (fun e w' => ∃ b mb, e = .returned (.tuple #[.pointer (some ⟨b, 0, none⟩), .int .i64 0]) ∧ TalI w' w.heap.size b mb 0 (.slice none 0 0) (S0 W H) ∧ Below w.heap.size w w') from (new_any W H w w.heap.size (Nat.le_refl _)).mono (by
    rintro e w' ⟨hB, ⟨_, b, mb, q1, q2⟩ | ⟨q, _⟩⟩
    · exact ⟨b, mb, q1, q2, hB⟩
    · omega))
  have HR := Lib.hid (fun w => show Calls Try.prog 21 #[.int .i64 W, .int .i64 H] w (fun e w' => e = .returned (.tuple #[rT (S0 W H) (.slice none 0 0), .int .i64 0]) ∧ Below w.heap.size w w') from (rnew_any W H w).mono (by
    rintro e w' ⟨hB, ⟨_, q⟩ | ⟨q, _⟩⟩
    · exact ⟨q, hB⟩
    · omega))
  unfold rT S0 at HR
  dsimp only at HR
  obtain ⟨hx1, hx2, hx3, hx4⟩ := hx
  have HX3 := Lib.hid hx3
  have HX4 := Lib.hid hx4
  clear hE hx3 hx4 hx1
  go_enter Try.func5, Try.ntmps5
  go_wp2_with (first | (go_at_call 20; refine (HN.out _).mono ?_; rintro e w1 ⟨b, mb, rfl, hT1, hB1⟩; have HB1 := Lib.hid hB1; have HT1 := Lib.hid hT1; clear hB1 hT1) | (go_at_call 21; refine (HR.out _).mono ?_; rintro e w2 ⟨rfl, hB2⟩; have HB2 := Lib.hid hB2; clear hB2) | (go_at_call 13; refine (awake_any _).mono ?_; rintro e w3 ⟨rfl, hB3⟩; have HB3 := Lib.hid hB3; clear hB3))
  have HK0 := Lib.hid (show Keep w b mb w2.heap.size 0 (S0 W H) (.slice none 0 0) (.slice none 0 0) w3 by
    have h1 := HB1.out.size
    have h2 := HB2.out.size
    have hb : Below w2.heap.size w2 (w2.alloc (.cells #[.int .i64 (bndN W H), .int .i64 0, .slice none 0 0, .string ByteArray.empty, .int .i64 0, .int .i64 0, .int .i64 0] 58)) := (Below.refl _ _).alloc (Nat.le_refl _) _
    have hbx : RBoxS (w2.alloc (.cells #[.int .i64 (bndN W H), .int .i64 0, .slice none 0 0, .string ByteArray.empty, .int .i64 0, .int .i64 0, .int .i64 0] 58)) w2.heap.size (S0 W H) (.slice none 0 0) := World.alloc_heap_new w2 _
    exact ⟨((HT1.out.below HB2.out).below hb).below HB3.out, TOk.zero _ _, hbx.keep HB3.out, World.ownsRow_nil _ _ _ _, ((HB1.out.trans (HB2.out.mono h1)).trans (hb.mono (by omega))).trans (HB3.out.mono (by simp; omega)), by omega⟩)
  obtain ⟨rb, hrb⟩ : ∃ rb, w2.heap.size = rb := ⟨_, rfl⟩
  rw [hrb] at HK0 ⊢
  clear HT1 HB1 HB2 HB3 HN HR hrb
  go_loopw [11] (fun i wr => ∃ (k : Nat) (S : TS) (ov lv : Value), i = .int .i64 (k : Int) ∧ k ≤ 60 ∧ k ≤ n ∧ Hid (Keep w b mb rb k S ov lv wr)) (fun i _ => n - (intOf i).toNat)
  case atStart => exact ⟨0, S0 W H, _, _, rfl, by omega, by omega, HK0⟩
  case round =>
    obtain ⟨k, S, ov, lv, rfl, hk60, hkn, HK⟩ := hrel
    by_cases hlt : k < n ∧ k < 60
    · obtain ⟨hlt, hlt60⟩ := hlt
      obtain ⟨bo, off, rfl, hbo, hop⟩ := HX4.out (by omega)
      obtain ⟨o0, o1, o2, o3⟩ := hop k hlt
      have hok := HX3.out k
      obtain ⟨o, ho⟩ : ∃ o, os.getD k opz = o := ⟨_, rfl⟩
      rw [ho] at o0 o1 o2 o3 hok
      obtain ⟨osz, okd, on, oh⟩ := o
      dsimp only at o0 o1 o2 o3
      have cw := fun q => HK.out.bel.cell (p := ⟨bo, q, none⟩) hbo
      have p0 := (cw _).trans o0
      have p1 := (cw _).trans o1
      have p2 := (cw _).trans o2
      have p3 := (cw _).trans o3
      have hks : okd.size ≤ maxLen := hok.1
      have HKS := Lib.hid hks
      clear hop cw o0 o1 o2 o3 ho hok hks
      cases osz
      · have hb1 : Below wr.heap.size wr (wr.alloc (.cells #[.bool false, .string okd, .int .i64 on, .int .i64 oh] 62)) := (Below.refl _ _).alloc (Nat.le_refl _) _
        have HK1 := Lib.hid (HK.out.below hb1)
        obtain ⟨xl, capl, rfl⟩ := owns_slice HK.out.row
        have HRN := Lib.hid (rnote_any S xl capl _ w.heap.size k HK1.out.bel.size HK1.out.ok (by omega) HK1.out.row okd on HKS.out)
        unfold RNoteEnd rT at HRN
        have hns := HK.out.ok
        have HOK := Lib.hid (note_ok hns okd on)
        obtain ⟨S', hS'⟩ : ∃ S', noteS S okd on = S' := ⟨_, rfl⟩
        obtain ⟨E, hE'⟩ : ∃ E, noteE S okd on = E := ⟨_, rfl⟩
        rw [hS', hE'] at HRN
        rw [hS'] at HOK
        have HS' := Lib.hid hS'
        have HE' := Lib.hid hE'
        have HTW := Lib.hid (show Two w b mb rb k wr.heap.size S S ov (.slice xl S.ks.length capl) okd on oh (wr.alloc (.cells #[.bool false, .string okd, .int .i64 on, .int .i64 oh] 62)) from ⟨HK1.out.tal, HK1.out.box, HK1.out.row, HK1.out.bel, HK1.out.lr, World.alloc_heap_new wr _⟩)
        have HSO := Lib.hid HK.out.ok
        obtain ⟨⟨r0, r1, r2, r3, r4, r5, r6⟩, _, rl⟩ := RBox.get HTW.out.box
        clear hb1 hns hS' hE' HK1
        go_wp2_with (first | (go_at_call 22; fail))
        go_at_call 22
        refine HRN.out.mono ?_
        rintro e w4 ⟨hB4, x4, cap4, rfl, hR4⟩
        have t4 := HTW.out.below hB4
        obtain ⟨⟨d0, d1, d2, d3, d4, d5, d6⟩, df, dl⟩ := RBox.get t4.box
        obtain ⟨o1, o2, ol⟩ := t4.obx.get
        have df0 := df 0
        have df1 := df 1
        have df2 := df 2
        have df3 := df 3
        have df4 := df 4
        have df5 := df 5
        have df6 := df 6
        have T5 := Lib.hid ((t4.put (S3 := S') (lv3 := .slice x4 S'.ks.length cap4) hR4).below ((Below.refl _ _).alloc (Nat.le_refl _) (.cells #[.int .i64 S'.bound, .int .i64 S'.over, .slice x4 S'.ks.length cap4, .string ByteArray.empty, .int .i64 S'.c, .int .i64 S'.a, .int .i64 S'.t] 58)))
        clear hB4 hR4 t4 df r0 r1 r2 r3 r4 r5 r6 rl HTW HRN p0 p1 p2 p3
        go_upto_region 17 with (fail)
        clear d0 d1 d2 d3 d4 d5 d6 df0 df1 df2 df3 df4 df5 df6 dl o1 o2 ol
        obtain ⟨w5, hw5⟩ : ∃ w5, (Set7 w4 rb (.int .i64 S'.bound) (.int .i64 S'.over) (.slice x4 S'.ks.length cap4) (.string ByteArray.empty) (.int .i64 S'.c) (.int .i64 S'.a) (.int .i64 S'.t)).alloc (.cells #[.int .i64 S'.bound, .int .i64 S'.over, .slice x4 S'.ks.length cap4, .string ByteArray.empty, .int .i64 S'.c, .int .i64 S'.a, .int .i64 S'.t] 58) = w5 := ⟨_, rfl⟩
        rw [hw5] at T5
        dsimp only [Set7] at hw5
        rw [hw5]
        clear hw5
        obtain ⟨o1, o2, ol⟩ := T5.out.obx.get
        go_wp2_with (first | (go_at_call 16; fail))
        go_at_call 16
        refine (note_yes T5.out.tal HSO.out (by omega) okd on HKS.out).mono ?_
        rintro e w6 ⟨rfl, ov6, hT6, hB6⟩
        rw [HE'.out]
        rw [HS'.out] at hT6
        have T6 := Lib.hid (T5.out.tally hT6 hB6)
        clear hT6 hB6 T5 o1 o2 ol
        obtain ⟨o1, o2, ol⟩ := T6.out.obx.get
        go_wp2_with (first | (go_at_call 14; fail))
        go_at_call 14
        refine (sum_yes T6.out.tal okd HKS.out).mono ?_
        rintro e w7 ⟨rfl, hB7⟩
        have T7 := Lib.hid (T6.out.below hB7)
        clear hB7 T6 o1 o2 ol
        obtain ⟨o1, o2, ol⟩ := T7.out.obx.get
        obtain ⟨⟨r0, r1, r2, r3, r4, r5, r6⟩, _, rl⟩ := RBox.get T7.out.box
        obtain ⟨kk, hkk⟩ : ∃ kk, kof S'.ks okd = kk := ⟨_, rfl⟩
        have HRS := Lib.hid (rsum_any S' x4 cap4 _ w.heap.size HOK.out.len T7.out.row okd)
        unfold RSumEnd rT at HRS
        rw [hkk] at HRS ⊢
        clear hkk
        go_wp2_with (first | (go_at_call 23; fail))
        go_at_call 23
        refine HRS.out.mono ?_
        rintro e w8 ⟨rfl, hB8⟩
        have T8 := Lib.hid ((T7.out.below hB8).below ((Below.refl _ _).alloc (Nat.le_refl _) (.cells #[.string kk.s, .int .i64 kk.c, .int .i64 kk.a, .int .i64 kk.t] 56)))
        clear hB8 T7 o1 o2 ol r0 r1 r2 r3 r4 r5 r6 rl HRS
        have HTO := Lib.hid (total_yes T8.out.tal (HOK.out.iok (by omega)))
        unfold TotEnd at HTO
        rw [HOK.out.sum] at HTO
        go_wp2_with (first | (go_at_call 15; fail))
        go_at_call 15
        refine HTO.out.mono ?_
        rintro e w9 ⟨rfl, hB9⟩
        have T9 := Lib.hid (T8.out.below hB9)
        have HKB := Lib.hid (show w9.heap[w8.heap.size]? = some (.cells #[.string kk.s, .int .i64 kk.c, .int .i64 kk.a, .int .i64 kk.t] 56 (0, 0)) from (hB9.block _ (by simp)).trans (World.alloc_heap_new w8 _))
        clear hB9 T8 HTO
        obtain ⟨⟨r0, r1, r2, r3, r4, r5, r6⟩, _, rl⟩ := RBox.get T9.out.box
        obtain ⟨m1, m2, m3⟩ := kbox_get HKB.out
        go_wp2
        go_quiet ((go_at_call 18; exact quiet_sym (over_yes (T9.out.tal.below (below_drewN (Below.refl _ _) _)))))
        have T10 := Lib.hid (T9.out.below (below_drewN (Below.refl _ _) nq))
        generalize w9.drewN nq = w10 at *
        clear T9 r0 r1 r2 r3 r4 r5 r6 rl m1 m2 m3 HKB
        have HIO := Lib.hid (HOK.out.iok (by omega))
        have HKA := Lib.hid (show Calls Try.prog 19 #[.pointer (some ⟨b, 0, none⟩), .int .i64 200] w10 (KdsEnd S'.ks S'.ks.length w10) by
          have h := kinds_yes T10.out.tal HIO.out 200 (by omega)
          rw [Nat.min_eq_left (by have := HOK.out.len; omega)] at h
          exact h)
        unfold KdsEnd at HKA
        go_wp2_with (first | (go_at_call 19; fail))
        go_at_call 19
        refine HKA.out.mono ?_
        rintro e w11 ⟨xa, capa, rfl, hSA, hB11⟩
        have T11 := Lib.hid (T10.out.below hB11)
        have HSA := Lib.hid hSA
        clear hSA hB11 T10 HKA
        obtain ⟨⟨_, _, r2, _, _, _, _⟩, _, rl⟩ := RBox.get T11.out.box
        have hlen := HOK.out.len
        have HK1c := Lib.hid (show Calls Try.prog 19 #[.pointer (some ⟨b, 0, none⟩), .int .i64 1] w11.drew (KdsEnd S'.ks (min S'.ks.length 1) w11.drew) from kinds_yes (T11.out.tal.below (Below.refl _ _).drew) HIO.out 1 (by omega))
        unfold KdsEnd at HK1c
        obtain ⟨L, hL⟩ : ∃ L, S'.ks.length = L := ⟨_, rfl⟩
        rw [hL] at r2 hlen HSA HK1c ⊢
        have HLL := Lib.hid hL
        clear hL
        obtain ⟨M, hM, hM2⟩ : ∃ M, min L 1 = M ∧ (M = 0 ∧ L = 0 ∨ M = 1 ∧ 1 ≤ L) := ⟨_, rfl, by omega⟩
        rw [hM] at HK1c
        clear hM
        rcases hM2 with ⟨rfl, rfl⟩ | ⟨rfl, hL1⟩
        · go_wp2
          go_region_held3 (fun w' => w'.cell? ⟨rb, 2, none⟩ = some (.slice x4 0 cap4)) (first | exact r2 | exact r2') ((go_at_call 19; refine HK1c.out.mono ?_; rintro e w12 ⟨xb, capb, rfl, hSB, hB12⟩; have T12 := Lib.hid (T11.out.below (((Below.refl _ _).drew).trans hB12)); have HSA2 := Lib.hid (HSA.out.keep (((Below.refl _ _).drew).trans hB12)); (obtain ⟨⟨_, _, r2', _, _, _, _⟩, _, rl'⟩ := RBox.get T12.out.box); rw [HLL.out] at r2'; clear hSB hB12))
          all_goals
            have HFIN := Lib.hid (fun wq (hq : ∃ mm, wq = w12.drewN mm) => show Hid (Keep w b mb rb (k + 1) S' ov6 (.slice x4 S'.ks.length cap4) wq) by
              obtain ⟨mm, rfl⟩ := hq
              have t := T12.out.below (below_drewN (Below.refl _ _) mm)
              exact Lib.hid ⟨t.tal, HOK.out, t.box, t.row, t.bel, t.lr⟩)
            go_wp2
            go_loopw [25] (fun j wq => ∃ q : Nat, q ≤ 0 ∧ j = .int .i64 (q : Int) ∧ Hid (∃ mm, wq = w12.drewN mm)) (fun j _ => 0 - (intOf j).toNat)
            case atStart => exact ⟨0, Nat.zero_le _, rfl, Lib.hid ⟨0, rfl⟩⟩
            case round =>
              obtain ⟨q, hq, rfl, HWQ⟩ := hrel
              obtain rfl : q = 0 := by omega
              go_wp2
              go_roundw
              case rel => exact ⟨k + 1, S', ov6, .slice x4 S'.ks.length cap4, by go_num, by omega, by omega, HFIN.out _ HWQ.out⟩
              case measure => simp [intOf]; omega
        · go_wp2
          go_region_held3 (fun w' => w'.cell? ⟨rb, 2, none⟩ = some (.slice x4 L cap4)) (first | exact r2 | exact r2') ((go_at_call 19; refine HK1c.out.mono ?_; rintro e w12 ⟨xb, capb, rfl, hSB, hB12⟩; have T12 := Lib.hid (T11.out.below (((Below.refl _ _).drew).trans hB12)); have HSA2 := Lib.hid (HSA.out.keep (((Below.refl _ _).drew).trans hB12)); (obtain ⟨⟨_, _, r2', _, _, _, _⟩, _, rl'⟩ := RBox.get T12.out.box); rw [HLL.out] at r2'; clear hSB hB12))
          all_goals
            have HFIN := Lib.hid (fun wq (hq : ∃ mm, wq = w12.drewN mm) => show Hid (Keep w b mb rb (k + 1) S' ov6 (.slice x4 S'.ks.length cap4) wq) by
              obtain ⟨mm, rfl⟩ := hq
              have t := T12.out.below (below_drewN (Below.refl _ _) mm)
              exact Lib.hid ⟨t.tal, HOK.out, t.box, t.row, t.bel, t.lr⟩)
            go_wp2
            go_loopw [25] (fun j wq => ∃ q : Nat, q ≤ L ∧ j = .int .i64 (q : Int) ∧ Hid (∃ mm, wq = w12.drewN mm)) (fun j _ => L - (intOf j).toNat)
            case atStart => exact ⟨0, Nat.zero_le _, rfl, Lib.hid ⟨0, rfl⟩⟩
            case round =>
              obtain ⟨q, hq, rfl, HWQ⟩ := hrel
              by_cases hql : q < L
              · obtain ⟨wm, rfl⟩ := HWQ.out
                obtain ⟨ga, rfl, hga, hca⟩ := HSA2.out (by omega)
                have hrow4 := T12.out.row
                obtain ⟨gl, rfl, _, hgl, _, _, hcl⟩ := rrow_cells hrow4 rfl (by rw [HLL.out]; omega)
                obtain ⟨va0, va1⟩ := hca q hql
                obtain ⟨vl0, vl1, _, _⟩ := hcl q (by rw [HLL.out]; exact hql)
                have va0' : (w12.drewN wm).cell? ⟨ga, q * 4, none⟩ = some (.string (kn S'.ks q).s) := by simpa [go_sem] using va0
                have va1' : (w12.drewN wm).cell? ⟨ga, q * 4 + 1, none⟩ = some (.int .i64 (kn S'.ks q).c) := by simpa [go_sem] using va1
                have vl0' : (w12.drewN wm).cell? ⟨gl, q * 4, none⟩ = some (.string (kn S'.ks q).s) := by simpa [go_sem] using vl0
                have vl1' : (w12.drewN wm).cell? ⟨gl, q * 4 + 1, none⟩ = some (.int .i64 (kn S'.ks q).c) := by simpa [go_sem] using vl1
                have vr' : (w12.drewN wm).cell? ⟨rb, 2, none⟩ = some (.slice (some ⟨gl, 0, none⟩) L cap4) := by simpa [go_sem] using r2'
                obtain ⟨w13, h13⟩ : ∃ w13, w12.drewN wm = w13 := ⟨_, rfl⟩
                rw [h13] at va0' va1' vl0' vl1' vr' ⊢
                have H13 := Lib.hid h13
                have hq0 : (0 : Int) ≤ (q : Int) := by omega
                have hq1 : (q : Int) < (L : Int) := by omega
                have HQL := Lib.hid hql
                have hqb : q ≤ 100 := by omega
                clear h13 va0 va1 vl0 vl1 hca hcl hrow4 r2 r2' rl rl'
                go_wp2
                go_quiet (fail)
                go_wp2
                go_roundw
                case rel =>
                  have := HQL.out
                  exact ⟨q + 1, by omega, by go_num, Lib.hid ⟨wm + nq, by rw [← H13.out, World.drewN_drewN]⟩⟩
                case measure => have := HQL.out; simp [intOf]; omega
              · obtain rfl : q = L := by omega
                go_wp2
                go_roundw
                case rel => exact ⟨k + 1, S', ov6, .slice x4 S'.ks.length cap4, by go_num, by omega, by omega, HFIN.out _ HWQ.out⟩
                case measure => simp [intOf]; omega
      · have hb1 : Below wr.heap.size wr (wr.alloc (.cells #[.bool true, .string okd, .int .i64 on, .int .i64 oh] 62)) := (Below.refl _ _).alloc (Nat.le_refl _) _
        have HK1 := Lib.hid (HK.out.below hb1)
        have HRE := Lib.hid (resize_yes HK1.out.tal on oh)
        unfold ResizeEnd at HRE
        have hbox := HK1.out.box
        clear hb1
        obtain ⟨⟨r0, _, _, _, _, _, _⟩, rf, rl⟩ := RBox.get hbox
        rcases bndE_or on oh with q | q
        · have HQ := Lib.hid q
          rw [q] at HRE
          have HRB := Lib.hid (fun W => rbound on oh W)
          rw [q] at HRB
          clear q hbox r0 rf rl
          go_wp2_with (first | (go_at_call 8; refine (HRB.out _).mono ?_; rintro e w' ⟨rfl, rfl⟩) | (go_at_call 17; refine HRE.out.mono ?_; rintro e w4 ⟨rfl, hT4, hB4⟩; obtain ⟨z1, z2, z3⟩ := HK1.out.tally hT4 (hB4.sub (fun j hj _ => by simp at hj; simp [hj])); (obtain ⟨⟨r0, _, _, _, _, _, _⟩, rf, rl⟩ := RBox.get z1); have rf0 := rf 0; have HT4 := Lib.hid hT4; have HZ1 := Lib.hid z1; have HZ2 := Lib.hid z2; have HZ3 := Lib.hid z3; clear hT4 hB4 z1 z2 z3 rf))
          go_roundw
          case rel =>
            have hre : reS S on oh = ⟨bndN on oh, S.over, S.c, S.a, S.t, S.ks⟩ := by unfold reS; rw [if_pos HQ.out]
            have hbut : But [rb] w4 (w4.setCell ⟨rb, 0, none⟩ (.int .i64 (bndN on oh))) := (But.refl _ _).set _ _ (by simp)
            refine ⟨k + 1, reS S on oh, ov, lv, by go_num, by omega, by omega, Lib.hid ⟨(HT4.out.rbox HZ1.out hbut).more, (HK.out.ok.re on oh).mono, ?_, ?_, HZ3.out.setCell HK.out.lr _, HK.out.lr⟩⟩
            · rw [hre]; exact RBox.upd HZ1.out 0 _ rfl
            · rw [hre]; exact row_rbox HZ2.out HZ1.out hbut
          case measure => simp [intOf]; omega
        · have HQ := Lib.hid q
          rw [q] at HRE
          have HRB := Lib.hid (fun W => rbound on oh W)
          rw [q] at HRB
          clear q hbox r0 rf rl
          go_wp2_with (first | (go_at_call 8; refine (HRB.out _).mono ?_; rintro e w' ⟨rfl, rfl⟩) | (go_at_call 17; refine HRE.out.mono ?_; rintro e w4 ⟨rfl, hT4, hB4⟩; obtain ⟨z1, z2, z3⟩ := HK1.out.tally hT4 (hB4.sub (fun j hj _ => by simp at hj; simp [hj])); have HT4 := Lib.hid hT4; have HZ1 := Lib.hid z1; have HZ2 := Lib.hid z2; have HZ3 := Lib.hid z3; clear hT4 hB4 z1 z2 z3))
          go_roundw
          case rel =>
            have hre : reS S on oh = S := by unfold reS; rw [if_neg (by rw [HQ.out]; decide)]
            have ht4 := HT4.out
            rw [hre] at ht4
            exact ⟨k + 1, S, ov, lv, by go_num, by omega, by omega, Lib.hid ⟨ht4.more, HK.out.ok.mono, HZ1.out, HZ2.out, HZ3.out, HK.out.lr⟩⟩
          case measure => simp [intOf]; omega
    · by_cases hlt0 : k < n
      all_goals
        go_wp2
        go_ret
        exact ⟨rfl, HK.out.bel⟩
end Go.Proofs.Ytcbdmaffcjdnbaa
