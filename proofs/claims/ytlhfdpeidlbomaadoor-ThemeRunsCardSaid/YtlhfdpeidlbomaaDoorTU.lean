/- Walk: the law ThemeRuns. -/
import Derived.Test.YtlhfdpeidlbomaaDoorTT
namespace Go.Proofs.YtlhfdpeidlbomaaDoor
open Go.RowKit Go.Shelf
/-- The state of the law: both themes. -/
structure RS (w : World) (g bt : Nat) (yt yr : List Sty) (W : World) : Prop where
  th : ThAt W bt yt
  rl : RLat W g yr
  bel : Below w.heap.size w W
  ne : w.heap.size ≤ bt ∧ w.heap.size ≤ g ∧ bt ≠ g
def OpAt (W : World) (p : Nat) (o : OpT) : Prop := W.heap[p]? = some (.cells #[.string o.s, .bool o.y.b, .bool o.y.u, .bool o.y.i, .int .i64 o.y.f, .int .i64 o.y.g, .bool o.p] 49 (0, 0))
theorem OpAt.lt {W : World} {p : Nat} {o : OpT} (h : OpAt W p o) : p < W.heap.size := (Array.getElem?_eq_some_iff.1 h).1
theorem OpAt.kept {W W' : World} {p n : Nat} {o : OpT} (h : OpAt W p o) (hp : p < n) (hb : Below n W W') : OpAt W' p o := (hb.block p hp).trans h
theorem OpAt.get {W : World} {p : Nat} {o : OpT} (h : OpAt W p o) : W.cell? ⟨p, 0, none⟩ = some (.string o.s) ∧ W.cell? ⟨p, 1, none⟩ = some (.bool o.y.b) ∧ W.cell? ⟨p, 2, none⟩ = some (.bool o.y.u) ∧ W.cell? ⟨p, 3, none⟩ = some (.bool o.y.i) ∧ W.cell? ⟨p, 4, none⟩ = some (.int .i64 o.y.f) ∧ W.cell? ⟨p, 5, none⟩ = some (.int .i64 o.y.g) ∧ W.cell? ⟨p, 6, none⟩ = some (.bool o.p) := by
  unfold OpAt at h
  refine ⟨?_, ?_, ?_, ?_, ?_, ?_, ?_⟩ <;> simp [World.cell?, h]
theorem RS.kept {w : World} {g bt : Nat} {yt yr : List Sty} {W W' : World} (h : RS w g bt yt yr W) (hb : Below W.heap.size W W') : RS w g bt yt yr W' :=
  ⟨h.th.kept h.th.lt hb, h.rl.kept h.rl.lt hb, h.bel.trans (below_le hb h.bel.size), h.ne⟩
/-- With the call's box. -/
structure RP (w : World) (g bt p : Nat) (o : OpT) (yt yr : List Sty) (W : World) : Prop where
  rs : RS w g bt yt yr W
  op : OpAt W p o
  pe : w.heap.size ≤ p ∧ p ≠ g ∧ p ≠ bt
theorem RP.kept {w : World} {g bt p : Nat} {o : OpT} {yt yr : List Sty} {W W' : World} (h : RP w g bt p o yt yr W) (hb : Below W.heap.size W W') : RP w g bt p o yt yr W' :=
  ⟨h.rs.kept hb, h.op.kept h.op.lt hb, h.pe⟩
theorem RP.newT {w : World} {g bt bt' p : Nat} {o : OpT} {yt yt' yr : List Sty} {W W' : World} (h : RP w g bt p o yt yr W) (ht : ThAt W' bt' yt') (hge : W.heap.size ≤ bt') (hb : Below W.heap.size W W') : RP w g bt' p o yt' yr W' :=
  have h1 := h.op.lt
  have h2 := h.rs.rl.lt
  have h3 := h.rs.bel.size
  ⟨⟨ht, h.rs.rl.kept h.rs.rl.lt hb, h.rs.bel.trans (below_le hb h.rs.bel.size), by omega, h.rs.ne.2.1, by omega⟩, h.op.kept h.op.lt hb, h.pe.1, h.pe.2.1, by omega⟩
theorem RP.setT {w : World} {g bt p : Nat} {o : OpT} {yt yt' yr : List Sty} {W W' : World} (h : RP w g bt p o yt yr W) (ht : ThAt W' bt yt') (hb : But [bt] W W') : RP w g bt p o yt' yr W' :=
  ⟨⟨ht, ⟨hb.heap h.rs.rl.blk (by have := h.rs.ne.2.2; simp; omega), h.rs.rl.len⟩, h.rs.bel.trans (hb.toBelow h.rs.bel.size (fun j hj => by have := h.rs.ne.1; simp at hj; omega)), h.rs.ne⟩, hb.heap h.op (by have := h.pe.2.2; simp; omega), h.pe⟩
theorem RP.setR {w : World} {g bt p : Nat} {o : OpT} {yt yr : List Sty} {W : World} (h : RP w g bt p o yt yr W) (k : Nat) (hk : k < 10) (y : Sty) :
    RP w g bt p o yt (yr.set k y) (((((W.setCell ⟨g, k * 5, none⟩ (.bool y.b)).setCell ⟨g, k * 5 + 1, none⟩ (.bool y.u)).setCell ⟨g, k * 5 + 2, none⟩ (.bool y.i)).setCell ⟨g, k * 5 + 3, none⟩ (.int .i64 y.f)).setCell ⟨g, k * 5 + 4, none⟩ (.int .i64 y.g)) :=
  have hr := h.rs.rl.stored k hk y
  have hn := h.rs.ne
  ⟨⟨⟨(five_cell hn.2.2).trans h.rs.th.blk, h.rs.th.len⟩, hr, (((((h.rs.bel.setCell (p := ⟨g, k * 5, none⟩) hn.2.1 _).setCell (p := ⟨g, k * 5 + 1, none⟩) hn.2.1 _).setCell (p := ⟨g, k * 5 + 2, none⟩) hn.2.1 _).setCell (p := ⟨g, k * 5 + 3, none⟩) hn.2.1 _).setCell (p := ⟨g, k * 5 + 4, none⟩) hn.2.1 _), hn⟩, (five_cell h.pe.2.1).trans h.op, h.pe⟩
theorem RP.plainR {w : World} {g bt p : Nat} {o : OpT} {yt yr : List Sty} {W : World} (h : RP w g bt p o yt yr W) (k : Nat) (hk : k < 10) :
    RP w g bt p o yt (yr.set k (noC (nthY yr k))) ((W.setCell ⟨g, k * 5 + 3, none⟩ (.int .i64 0)).setCell ⟨g, k * 5 + 4, none⟩ (.int .i64 0)) :=
  have hr := h.rs.rl.plain k hk
  have hn := h.rs.ne
  ⟨⟨⟨((set_other hn.2.2).trans (set_other hn.2.2)).trans h.rs.th.blk, h.rs.th.len⟩, hr, (h.rs.bel.setCell (p := ⟨g, k * 5 + 3, none⟩) hn.2.1 _).setCell (p := ⟨g, k * 5 + 4, none⟩) hn.2.1 _, hn⟩, ((set_other h.pe.2.1).trans (set_other h.pe.2.1)).trans h.op, h.pe⟩
theorem lift_bytes (s : ByteArray) : ∃ l : Bs, s = tx l := ⟨s.data.toList, rfl⟩
set_option maxRecDepth 100000 in
set_option maxHeartbeats 8000000 in
theorem runs_any (x0 : Option Addr) (n0 c0 : Nat) (os : List OpT) (w : World) (_hc0 : n0 ≤ c0) (hops : OpsV w x0 n0 os) (hm : MaxLn w) :
    Calls Tryd.prog 5 #[.slice x0 n0 c0] w fun e w' => e = .returned (.bool true) ∧ Below w.heap.size w w' := by
  have HM := Lib.hid hm
  have HOPS := Lib.hid hops
  have hn0 := hops.2.1
  clear hm hops
  go_enter Tryd.func5, Tryd.ntmps5
  go_wp2_with (first | (go_at_call 16; fail))
  go_at_call 16
  refine (wnew _).mono ?_
  rintro e w1 ⟨rfl, ht, hb⟩
  have H1 := Lib.hid (And.intro ht hb)
  clear ht hb
  go_wp2_with (first | (go_at_call 17; fail))
  go_at_call 17
  refine (wusualR _).mono ?_
  rintro e w2 ⟨rfl, rfl⟩
  have H2 : Hid (RS w w1.heap.size (w.heap.size + 1) usualL usualL (w1.alloc (.cells usualA 23))) := by
    have h1 := H1.out.1.lt
    exact Lib.hid ⟨H1.out.1.kept h1 ((Below.refl _ _).alloc (Nat.le_refl _) _), ⟨heap_alloc_new _ _, rfl⟩, H1.out.2.alloc H1.out.2.size _, by omega, H1.out.2.size, by omega⟩
  clear H1
  obtain ⟨g, hg⟩ : ∃ g, g = w1.heap.size := ⟨_, rfl⟩
  rw [← hg] at H2 ⊢
  clear hg
  obtain ⟨bt, hbt⟩ : ∃ g, g = w.heap.size + 1 := ⟨_, rfl⟩
  rw [← hbt] at H2 ⊢
  clear hbt
  generalize w1.alloc (.cells usualA 23) = w2 at H2 ⊢
  go_wp2_with (first | (go_at_call 11; fail))
  go_at_call 11
  refine (wawake _ (HM.out.kept HM.out.lt H2.out.bel)).mono ?_
  rintro e w3 ⟨rfl, hb3⟩
  have H3 := Lib.hid (H2.out.kept hb3)
  clear H2 hb3
  go_wp2
  obtain ⟨N, hN⟩ : ∃ N, N = min n0 40 := ⟨_, rfl⟩
  have HN := Lib.hid hN
  clear hN
  go_loopw [3, 5] (fun t i wr => ∃ (j bt : Nat) (ys : List Sty), j ≤ N ∧ i = .int .i64 j ∧ t = .pointer (some ⟨bt, 0, none⟩) ∧ Hid (RS w g bt ys ys wr)) (fun _ i _ => N - (intOf i).toNat)
  case atStart => exact ⟨0, bt, usualL, by omega, rfl, rfl, H3⟩
  case round =>
    clear H3
    obtain ⟨j, bq, ys, hj, rfl, rfl, HS⟩ := hrel
    by_cases hlt : j < N
    · have hlt0 : j < n0 := by have := HN.out; omega
      have h40 : j < 40 := by have := HN.out; omega
      obtain ⟨b0, off, rfl, hb0, hcs⟩ := HOPS.out.2.2 (by omega)
      have hcj := hcs j hlt0
      obtain ⟨o, ho⟩ : ∃ o, o = os.getD j opz := ⟨_, rfl⟩
      rw [← ho] at hcj
      clear ho hcs
      obtain ⟨s, y, pl⟩ := o
      have hcw := fun t (ht : t < 7) => (HS.out.bel.cell (p := ⟨b0, off + j * 7 + t, none⟩) hb0).trans (hcj t ht)
      have p0 : wr.cell? ⟨b0, off + j * 7, none⟩ = some (.string s) := hcw 0 (by omega)
      have p1 : wr.cell? ⟨b0, off + j * 7 + 1, none⟩ = some (.bool y.b) := hcw 1 (by omega)
      have p2 : wr.cell? ⟨b0, off + j * 7 + 2, none⟩ = some (.bool y.u) := hcw 2 (by omega)
      have p3 : wr.cell? ⟨b0, off + j * 7 + 3, none⟩ = some (.bool y.i) := hcw 3 (by omega)
      have p4 : wr.cell? ⟨b0, off + j * 7 + 4, none⟩ = some (.int .i64 y.f) := hcw 4 (by omega)
      have p5 : wr.cell? ⟨b0, off + j * 7 + 5, none⟩ = some (.int .i64 y.g) := hcw 5 (by omega)
      have p6 : wr.cell? ⟨b0, off + j * 7 + 6, none⟩ = some (.bool pl) := hcw 6 (by omega)
      clear hcw hcj
      obtain ⟨l, rfl⟩ := lift_bytes s
      go_upto_region 8 with (fail)
      have H4 : Hid (RP w g bq wr.heap.size ⟨tx l, y, pl⟩ ys ys (wr.alloc (.cells #[.string (tx l), .bool y.b, .bool y.u, .bool y.i, .int .i64 y.f, .int .i64 y.g, .bool pl] 49))) := by
        have h1 := HS.out.th.lt
        have h2 := HS.out.rl.lt
        have h3 := HS.out.bel.size
        exact Lib.hid ⟨HS.out.kept ((Below.refl _ _).alloc (Nat.le_refl _) _), heap_alloc_new _ _, by omega, by omega, by omega⟩
      clear p0 p1 p2 p3 p4 p5 p6 HS
      obtain ⟨p, hp⟩ : ∃ p, p = wr.heap.size := ⟨_, rfl⟩
      rw [← hp] at H4 ⊢
      clear hp
      generalize wr.alloc (.cells #[.string (tx l), .bool y.b, .bool y.u, .bool y.i, .int .i64 y.f, .int .i64 y.g, .bool pl] 49) = w4 at H4 ⊢
      have HP := Lib.hid (fun W => wplaceR l W)
      have HW := Lib.hid (fun W => wwordsRA y W)
      have HSE := Lib.hid (fun b zs W h => wset b zs l y W h)
      have HGE := Lib.hid (fun b zs W h => wget b zs l W h)
      have HSM := Lib.hid (fun bt g zs W h1 h2 => wsame bt g zs W h1 h2)
      have HPL := Lib.hid (fun b zs W h => wplain b zs W h)
      have HI : Hid (setI l y = (if plB l = true then if wE y = 0 then 0 else 310 else 6) ∧ (∀ zs, setY zs l y = if plB l = true ∧ wE y = 0 then zs.set (plI l).toNat y else zs) ∧ (∀ zs, getY zs l = if plB l = true then nthY zs (plI l).toNat else sty0) ∧ (wE y = 0 ∨ wE y = 310)) := by
        have he : (wE y = 0) = (y.may = True) := by unfold wE; split <;> simp [*]
        refine Lib.hid ⟨?_, fun zs => ?_, fun zs => rfl, ?_⟩
        · unfold setI; simp [he]
        · unfold setY; simp [he]
        · unfold wE; split; exact .inl rfl; exact .inr rfl
      unfold GetEnd at HGE
      have hkin := pl_in l
      obtain ⟨k, hk⟩ : ∃ k : Nat, plI l = (k : Int) := ⟨(plI l).toNat, by omega⟩
      have hk10 : k < 10 := by omega
      have hkn : (plI l).toNat = k := by omega
      rw [hkn] at HI
      rw [hk] at HP
      clear hkin hk hkn
      obtain ⟨pb, hpb⟩ : ∃ x, x = plB l := ⟨_, rfl⟩
      obtain ⟨E, hE⟩ : ∃ x, x = wE y := ⟨_, rfl⟩
      obtain ⟨B, hB⟩ : ∃ x, x = tx (wB y) := ⟨_, rfl⟩
      obtain ⟨T, hT⟩ : ∃ x, x = tx l := ⟨_, rfl⟩
      obtain ⟨I, hII⟩ : ∃ x, x = setI l y := ⟨_, rfl⟩
      obtain ⟨SY, hSY⟩ : ∃ x, x = fun zs => setY zs l y := ⟨_, rfl⟩
      obtain ⟨GY, hGY⟩ : ∃ x, x = fun zs => getY zs l := ⟨_, rfl⟩
      have hSY2 : ∀ zs, setY zs l y = SY zs := fun zs => by rw [hSY]
      have hGY2 : ∀ zs, getY zs l = GY zs := fun zs => by rw [hGY]
      simp only [hSY2, hGY2, ← hII, ← hT, ← hpb, ← hE, ← hB] at HP HW HSE HGE HI H4 ⊢
      clear hSY2 hGY2 hSY hGY hII hpb hE hB hT
      obtain ⟨yb, yu, yi, yf, yg⟩ := y
      unfold Sty.v at HW HSE
      simp only [] at HP HW HSE H4 ⊢
      obtain ⟨c0, _⟩ := H4.out.op.get
      simp only [] at c0
      go_wp2_with (first | (go_at_call 18; fail))
      go_at_call 18
      refine (HP.out _).mono ?_
      rintro e w5 ⟨rfl, hb5⟩
      have H5 := Lib.hid (H4.out.kept hb5)
      clear hb5 H4 c0 HP
      obtain ⟨_, c1, c2, c3, c4, c5, _⟩ := H5.out.op.get
      simp only [] at c1 c2 c3 c4 c5
      go_wp2_with (first | (go_at_call 8; fail))
      go_at_call 8
      refine (HW.out _).mono ?_
      rintro e w6 ⟨rfl, hb6⟩
      have H6 := Lib.hid (H5.out.kept hb6)
      clear hb6 H5 c1 c2 c3 c4 c5 HW
      go_upto_block 2 with (fail)
      go_cut [3, 11] (fun t u wx => ∃ (b2 : Nat) (zt zr : List Sty) (want : Int), t = .pointer (some ⟨b2, 0, none⟩) ∧ u = .int .i64 want ∧ (pl = true → zt = zr) ∧ (pl = false → zr = SY zt ∧ want = I) ∧ Hid (RP w g b2 p ⟨T, ⟨yb, yu, yi, yf, yg⟩, pl⟩ zt zr wx))
      case first =>
        as_aux_lemma =>
          obtain ⟨_, _, _, _, _, _, c6⟩ := H6.out.op.get
          simp only [] at c6
          cases pl
          · cases pb
            · have HV : Hid (I = 6 ∧ ∀ zs, SY zs = zs) := Lib.hid ⟨by have := HI.out.1; simpa using this, fun zs => by have := HI.out.2.1 zs; simpa using this⟩
              clear HI
              go_wp2
              go_meet
              exact ⟨bq, ys, ys, 6, rfl, rfl, fun h => (by cases h), fun _ => ⟨(HV.out.2 _).symm, HV.out.1.symm⟩, H6⟩
            · rcases HI.out.2.2.2 with hE | hE
              · have HV : Hid (I = 0 ∧ ∀ zs, SY zs = zs.set k ⟨yb, yu, yi, yf, yg⟩) := Lib.hid ⟨by have := HI.out.1; simpa [hE] using this, fun zs => by have := HI.out.2.1 zs; simpa [hE] using this⟩
                clear HI
                subst hE
                have HST := Lib.hid (H6.out.setR k hk10 ⟨yb, yu, yi, yf, yg⟩)
                obtain ⟨_, c1, c2, c3, c4, c5, _⟩ := H6.out.op.get
                obtain ⟨d0, d1, d2, d3, d4⟩ := H6.out.rs.rl.get k hk10
                have f0 := H6.out.rs.rl.frozen (k * 5)
                have f1 := H6.out.rs.rl.frozen (k * 5 + 1)
                have f2 := H6.out.rs.rl.frozen (k * 5 + 2)
                have f3 := H6.out.rs.rl.frozen (k * 5 + 3)
                have f4 := H6.out.rs.rl.frozen (k * 5 + 4)
                have i1 : (0 : Int) ≤ (k : Int) := by omega
                have i2 : (k : Int) < 10 := by omega
                simp only [] at c1 c2 c3 c4 c5 HST
                go_wp2
                go_meet
                exact ⟨bq, ys, _, 0, rfl, rfl, fun h => (by cases h), fun _ => ⟨(HV.out.2 _).symm, HV.out.1.symm⟩, HST⟩
              · have HV : Hid (I = 310 ∧ ∀ zs, SY zs = zs) := Lib.hid ⟨by have := HI.out.1; simpa [hE] using this, fun zs => by have := HI.out.2.1 zs; simpa [hE] using this⟩
                clear HI
                subst hE
                go_wp2
                go_meet
                exact ⟨bq, ys, ys, 310, rfl, rfl, fun h => (by cases h), fun _ => ⟨(HV.out.2 _).symm, HV.out.1.symm⟩, H6⟩
          · go_wp2_with (first | (go_at_call 19; fail))
            go_at_call 19
            have HL0 := Lib.hid H6.out.rs.th.len
            refine (HPL.out _ _ _ H6.out.rs.th).mono ?_
            rintro e w7 ⟨b2, rfl, ht7, hge7, hb7⟩
            have H7 := Lib.hid (H6.out.newT ht7 hge7 hb7)
            clear H6 ht7 hge7 hb7 c6
            go_wp2
            go_loopw [12] (fun i wr => ∃ (kk : Nat) (zs : List Sty), i = .int .i64 kk ∧ kk ≤ 10 ∧ Hid (PlTo ys kk zs ∧ RP w g b2 p ⟨T, ⟨yb, yu, yi, yf, yg⟩, true⟩ (ys.map noC) zs wr)) (fun i _ => 10 - (intOf i).toNat)
            case atStart => exact ⟨0, ys, rfl, by omega, Lib.hid ⟨PlTo.start HL0.out, H7.out⟩⟩
            case round =>
              clear H7
              obtain ⟨kk, zs, rfl, hkk, HZ⟩ := hrel
              by_cases h0 : kk < 10
              · have HN2 := Lib.hid (And.intro (HZ.out.1.step h0) (HZ.out.2.plainR kk h0))
                obtain ⟨_, _, _, d3, d4⟩ := HZ.out.2.rs.rl.get kk h0
                have f3 := HZ.out.2.rs.rl.frozen (kk * 5 + 3)
                have f4 := HZ.out.2.rs.rl.frozen (kk * 5 + 4)
                have i1 : (0 : Int) ≤ (kk : Int) := by omega
                have i2 : (kk : Int) < 10 := by omega
                clear HZ
                go_wp2
                go_roundw
                case rel => exact ⟨kk + 1, _, by go_num, by omega, HN2⟩
                case measure => simp [intOf]; omega
              · obtain rfl : kk = 10 := by omega
                have e := HZ.out.1.done HL0.out
                go_wp2
                go_meet
                exact ⟨b2, ys.map noC, zs, 0, rfl, rfl, fun _ => e.symm, fun h => (by cases h), Lib.hid HZ.out.2⟩
      clear H6
      obtain ⟨b2, zt, zr, want, rfl, rfl, hz1, hz2, HC⟩ := hcut
      cases pl
      · obtain ⟨hzr, hw⟩ := hz2 rfl
        clear hz1 hz2
        subst hw
        obtain ⟨c0, c1, c2, c3, c4, c5, c6⟩ := HC.out.op.get
        simp only [] at c0 c1 c2 c3 c4 c5 c6
        go_wp2_with (first | (go_at_call 20; fail))
        go_at_call 20
        refine (HSE.out _ _ _ HC.out.rs.th).mono ?_
        rintro e w7 ⟨rfl, ht7, hb7⟩
        rw [← hzr] at ht7
        have H7 := Lib.hid (HC.out.setT ht7 hb7)
        clear c0 c1 c2 c3 c4 c5 c6 HC ht7 hb7 hzr
        go_wp2_with (first | (go_at_call 15; fail))
        go_at_call 15
        refine (HSM.out b2 g zr _ H7.out.rs.th H7.out.rs.rl).mono ?_
        rintro e w8 ⟨rfl, hb8⟩
        have H8 := Lib.hid (H7.out.kept hb8)
        clear hb8 H7
        obtain ⟨c0, _⟩ := H8.out.op.get
        simp only [] at c0
        have HG := Lib.hid (HGE.out b2 zr w8 H8.out.rs.th)
        have HQ := Lib.hid (HI.out.2.2.1 zr)
        clear HI HSM HSE HGE HPL
        cases pb
        · have hq := HQ.out
          simp only [Bool.false_eq_true, if_false] at hq
          rw [hq] at HG
          unfold Sty.v sty0 at HG
          simp only [] at HG
          clear hq HQ
          go_wp2_with (first | (go_at_call 21; fail))
          go_at_call 21
          refine HG.out.mono ?_
          rintro e w9 ⟨rfl, hb9⟩
          have H9 := Lib.hid ((H8.out.kept hb9).kept ((Below.refl _ _).alloc (Nat.le_refl _) (.cells (styCells sty0) 23)))
          have HY9 : Hid (StyAt (w9.alloc (.cells (styCells sty0) 23)) w9.heap.size sty0) := Lib.hid (heap_alloc_new _ _)
          clear hb9 H8 c0
          unfold styCells sty0 at H9 HY9
          simp only [] at H9 HY9
          go_upto_region 25 with (fail)
          generalize w9.alloc (.cells #[.bool false, .bool false, .bool false, .int .i64 0, .int .i64 0] 23) = w10 at H9 HY9 ⊢
          obtain ⟨c0, c1, c2, c3, c4, _, _⟩ := HY9.out.get
          simp only [] at c0 c1 c2 c3 c4
          have hns := neq_self sty0
          unfold sty0 at hns
          simp only [] at hns
          go_region
          all_goals
            go_wp2
            go_roundw
            case rel => exact ⟨j + 1, b2, zr, by omega, by go_num, rfl, Lib.hid (H9.out.rs.kept (Below.refl _ _).drew)⟩
            case measure => simp [intOf]; omega
        · have hq := HQ.out
          simp only [if_true] at hq
          rw [hq] at HG
          clear hq HQ
          obtain ⟨Y, hY⟩ : ∃ Y, Y = nthY zr k := ⟨_, rfl⟩
          rw [← hY] at HG
          have HYK := Lib.hid hY
          clear hY
          obtain ⟨zb, zu, zi, zf, zg⟩ := Y
          unfold Sty.v at HG
          simp only [] at HG
          go_wp2_with (first | (go_at_call 21; fail))
          go_at_call 21
          refine HG.out.mono ?_
          rintro e w9 ⟨rfl, hb9⟩
          have H9 := Lib.hid ((H8.out.kept hb9).kept ((Below.refl _ _).alloc (Nat.le_refl _) (.cells #[.bool zb, .bool zu, .bool zi, .int .i64 zf, .int .i64 zg] 23)))
          have HY9 : Hid (StyAt (w9.alloc (.cells #[.bool zb, .bool zu, .bool zi, .int .i64 zf, .int .i64 zg] 23)) w9.heap.size ⟨zb, zu, zi, zf, zg⟩) := Lib.hid (heap_alloc_new _ _)
          clear hb9 H8 c0
          go_upto_region 25 with (fail)
          generalize w9.alloc (.cells #[.bool zb, .bool zu, .bool zi, .int .i64 zf, .int .i64 zg] 23) = w10 at H9 HY9 ⊢
          obtain ⟨c0, c1, c2, c3, c4, _, _⟩ := HY9.out.get
          obtain ⟨d0, d1, d2, d3, d4⟩ := H9.out.rs.rl.get k hk10
          rw [← HYK.out] at d0 d1 d2 d3 d4
          simp only [] at c0 c1 c2 c3 c4 d0 d1 d2 d3 d4
          have hns := neq_self ⟨zb, zu, zi, zf, zg⟩
          simp only [] at hns
          have i1 : (0 : Int) ≤ (k : Int) := by omega
          have i2 : (k : Int) < 10 := by omega
          go_region
          all_goals
            go_wp2
            go_roundw
            case rel => exact ⟨j + 1, b2, zr, by omega, by go_num, rfl, Lib.hid (H9.out.rs.kept (Below.refl _ _).drew)⟩
            case measure => simp [intOf]; omega
      · have hzz := hz1 rfl
        rw [hzz] at HC
        clear hz1 hz2 hzz
        have H7 := HC
        clear HC
        obtain ⟨c0, c1, c2, c3, c4, c5, c6⟩ := H7.out.op.get
        simp only [] at c0 c1 c2 c3 c4 c5 c6
        go_wp2_with (first | (go_at_call 15; fail))
        clear c0 c1 c2 c3 c4 c5 c6
        go_at_call 15
        refine (HSM.out b2 g zr _ H7.out.rs.th H7.out.rs.rl).mono ?_
        rintro e w8 ⟨rfl, hb8⟩
        have H8 := Lib.hid (H7.out.kept hb8)
        clear hb8 H7
        obtain ⟨c0, _⟩ := H8.out.op.get
        simp only [] at c0
        have HG := Lib.hid (HGE.out b2 zr w8 H8.out.rs.th)
        have HQ := Lib.hid (HI.out.2.2.1 zr)
        clear HI HSM HSE HGE HPL
        cases pb
        · have hq := HQ.out
          simp only [Bool.false_eq_true, if_false] at hq
          rw [hq] at HG
          unfold Sty.v sty0 at HG
          simp only [] at HG
          clear hq HQ
          go_wp2_with (first | (go_at_call 21; fail))
          go_at_call 21
          refine HG.out.mono ?_
          rintro e w9 ⟨rfl, hb9⟩
          have H9 := Lib.hid ((H8.out.kept hb9).kept ((Below.refl _ _).alloc (Nat.le_refl _) (.cells (styCells sty0) 23)))
          have HY9 : Hid (StyAt (w9.alloc (.cells (styCells sty0) 23)) w9.heap.size sty0) := Lib.hid (heap_alloc_new _ _)
          clear hb9 H8 c0
          unfold styCells sty0 at H9 HY9
          simp only [] at H9 HY9
          go_upto_region 25 with (fail)
          generalize w9.alloc (.cells #[.bool false, .bool false, .bool false, .int .i64 0, .int .i64 0] 23) = w10 at H9 HY9 ⊢
          obtain ⟨c0, c1, c2, c3, c4, _, _⟩ := HY9.out.get
          simp only [] at c0 c1 c2 c3 c4
          have hns := neq_self sty0
          unfold sty0 at hns
          simp only [] at hns
          go_region
          all_goals
            go_wp2
            go_roundw
            case rel => exact ⟨j + 1, b2, zr, by omega, by go_num, rfl, Lib.hid (H9.out.rs.kept (Below.refl _ _).drew)⟩
            case measure => simp [intOf]; omega
        · have hq := HQ.out
          simp only [if_true] at hq
          rw [hq] at HG
          clear hq HQ
          obtain ⟨Y, hY⟩ : ∃ Y, Y = nthY zr k := ⟨_, rfl⟩
          rw [← hY] at HG
          have HYK := Lib.hid hY
          clear hY
          obtain ⟨zb, zu, zi, zf, zg⟩ := Y
          unfold Sty.v at HG
          simp only [] at HG
          go_wp2_with (first | (go_at_call 21; fail))
          go_at_call 21
          refine HG.out.mono ?_
          rintro e w9 ⟨rfl, hb9⟩
          have H9 := Lib.hid ((H8.out.kept hb9).kept ((Below.refl _ _).alloc (Nat.le_refl _) (.cells #[.bool zb, .bool zu, .bool zi, .int .i64 zf, .int .i64 zg] 23)))
          have HY9 : Hid (StyAt (w9.alloc (.cells #[.bool zb, .bool zu, .bool zi, .int .i64 zf, .int .i64 zg] 23)) w9.heap.size ⟨zb, zu, zi, zf, zg⟩) := Lib.hid (heap_alloc_new _ _)
          clear hb9 H8 c0
          go_upto_region 25 with (fail)
          generalize w9.alloc (.cells #[.bool zb, .bool zu, .bool zi, .int .i64 zf, .int .i64 zg] 23) = w10 at H9 HY9 ⊢
          obtain ⟨c0, c1, c2, c3, c4, _, _⟩ := HY9.out.get
          obtain ⟨d0, d1, d2, d3, d4⟩ := H9.out.rs.rl.get k hk10
          rw [← HYK.out] at d0 d1 d2 d3 d4
          simp only [] at c0 c1 c2 c3 c4 d0 d1 d2 d3 d4
          have hns := neq_self ⟨zb, zu, zi, zf, zg⟩
          simp only [] at hns
          have i1 : (0 : Int) ≤ (k : Int) := by omega
          have i2 : (k : Int) < 10 := by omega
          go_region
          all_goals
            go_wp2
            go_roundw
            case rel => exact ⟨j + 1, b2, zr, by omega, by go_num, rfl, Lib.hid (H9.out.rs.kept (Below.refl _ _).drew)⟩
            case measure => simp [intOf]; omega
    · by_cases hq : j < n0
      · have h40 : ¬ j < 40 := by have := HN.out; omega
        go_wp2
        go_ret
        exact ⟨rfl, HS.out.bel⟩
      · go_wp2
        go_ret
        exact ⟨rfl, HS.out.bel⟩
end Go.Proofs.YtlhfdpeidlbomaaDoor
