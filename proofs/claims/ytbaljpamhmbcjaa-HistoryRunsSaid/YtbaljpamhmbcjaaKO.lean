/- Merged: KL, KM, KN, KO. -/
import Derived.Test.YtbaljpamhmbcjaaKK
import Derived.Deep.Slices
/- Walk: step. -/
namespace Go.Proofs.Ytbaljpamhmbcjaa
open Go.RowKit Go.Shelf
theorem wopStep (b m : Nat) (hm1 : 1 ≤ m) (hm2 : m ≤ 256) (L : List Bs) (hg : GoodL m L) (k : Wk) (hk : k.Fit L) (xb : Option Addr) (cb : Nat) (x : Option Addr) (c : Nat) (d8 : Nat) (hd2 : d8 < 256) (S T : Bs) (w : World) (h : His w b m L k xb cb) (hs : SeesL w x c L) :
    Calls Try.prog 19 #[.pointer (some ⟨b, 0, none⟩), rV m x L.length c k, .agg #[.int .u8 d8, .string (tx S), .string (tx T)]] w (StepEnd w b m) := by
  have e : (d8 : Int).tmod 8 = ((d8 % 8 : Nat) : Int) := by rw [Int.tmod_eq_emod_of_nonneg (by omega)]; omega
  have hlt : d8 % 8 < 8 := Nat.mod_lt _ (by decide)
  by_cases h5 : d8 % 8 = 5
  · exact step_newer b m hm1 hm2 L hg k hk xb cb x c d8 h5 hd2 (tx S) (tx T) w h hs
  by_cases h6 : d8 % 8 = 6
  · exact step_leave b m hm1 hm2 L hg k hk xb cb x c d8 h6 hd2 (tx S) (tx T) w h hs
  by_cases h34 : d8 % 8 = 3 ∨ d8 % 8 = 4
  · exact step_older b m hm1 hm2 L hg k hk xb cb x c d8 _ e (by omega) S T w h hs
  · exact step_add b m hm1 hm2 L hg k hk xb cb x c d8 _ e (by omega) S T w h hs
end Go.Proofs.Ytbaljpamhmbcjaa
/- The law HistoryRuns: its calls as they come in. -/
namespace Go.Proofs.Ytbaljpamhmbcjaa
open Go.RowKit Go.Shelf Go.ChangeMaps Go.ChangeShapes Go.WideShapes Go.Deep
structure OpD where
  d : Nat
  s : Bs
  t : Bs
def opCells (o : OpD) : List Value := [.int .u8 o.d, .string (tx o.s), .string (tx o.t)]
def opz : OpD := ⟨0, [], []⟩
/-- A slice of calls. -/
def OpsV (w : World) (x : Option Addr) (n : Nat) (os : List OpD) : Prop :=
  n = os.length ∧ n ≤ 9223372036854775807 ∧ (∀ i, i < n → (os.getD i opz).d < 256) ∧ (0 < n → ∃ b off, x = some ⟨b, off, none⟩ ∧ b < w.heap.size ∧ ∀ i, i < n → ∀ j, j < 3 → w.cell? ⟨b, off + i * 3 + j, none⟩ = (opCells (os.getD i opz))[j]?)
section
variable {H : Type} {enc : TypeId × Value → H} {w : World} {base : Nat} {spare : Nat → Bool} {held : Bool}
theorem addr_plain {a : Addr} {n : Nat} {cs : List Value} (h : w.cells? base a n = some cs) (hn : 0 < n) : ∃ b off, a = ⟨b, off, none⟩ := by
  obtain ⟨_, hl, hc⟩ := World.cells?_some h
  obtain ⟨b, off, spot⟩ := a
  have h0 := hc 0 hn
  rw [List.getElem?_eq_getElem (by omega)] at h0
  have := World.cell?_spot h0
  exact ⟨b, off, by simp [Addr.add] at this; rw [this]⟩
set_option maxRecDepth 100000 in
theorem op_of_trod {fuel : Nat} {cs : List Value} {x : DataW H × List MemPlace} (h : DataW.trod enc Try.prog w base spare held fuel 45 cs = some x) : ∃ o : OpD, o.d < 256 ∧ cs = opCells o := by
  obtain ⟨xs, n, _, _, hl, hn, hf⟩ := DataW.trod_struct Try.underlying45 h
  have hc : Try.prog.cellsOf 45 = 3 := by kernel_rfl
  have c5 : Try.prog.cellsOf 5 = 1 := by kernel_rfl
  have c9 : Try.prog.cellsOf 9 = 1 := by kernel_rfl
  rw [hc] at hl
  match cs, hl with
  | [v0, v1, v2], _ =>
    have h0 := hf 0 ⟨"Do", 5, 0, false, "", "", 0⟩ rfl
    have h1 := hf 1 ⟨"S", 9, 1, false, "", "", 8⟩ rfl
    have h2 := hf 2 ⟨"T", 9, 2, false, "", "", 24⟩ rfl
    simp only [List.size_toArray, List.length_cons, List.length_nil] at hn
    rw [List.getElem?_eq_getElem (by omega)] at h0 h1 h2
    simp only [c5] at h0
    simp only [c9] at h1
    simp only [c9] at h2
    obtain ⟨a, ha, _, wa⟩ := DataW.trod_int Try.underlying5 h0
    obtain ⟨k, hk, _⟩ := DataW.trod_string Try.underlying9 h1
    obtain ⟨d, hd, _⟩ := DataW.trod_string Try.underlying9 h2
    simp at ha hd hk
    simp [Lit.wf, IntKind.min, IntKind.max, IntKind.signed, IntKind.bits] at wa
    refine ⟨⟨a.toNat, k.data.toList, d.data.toList⟩, by simp only []; omega, ?_⟩
    simp only [opCells, tx_of, ha, hk, hd]
    rw [Int.toNat_of_nonneg (by omega)]
set_option maxRecDepth 100000 in
theorem ops_of_trod {fuel : Nat} {v : Value} {x : DataW H × List MemPlace} (h : DataW.trod enc Try.prog w base spare held fuel 36 [v] = some x) :
    ∃ a n cap os, v = .slice a n cap ∧ n ≤ cap ∧ OpsV w a n os := by
  have hc : Try.prog.cellsOf 45 = 3 := by kernel_rfl
  rcases open_slice Try.underlying36 h with ⟨hcs, _⟩ | ⟨a, len, cap, m, n, D, Pl, hcs, _, hl, hm, hmm, _, hx⟩
  · simp at hcs; subst hcs; exact ⟨none, 0, 0, [], rfl, Nat.le_refl _, rfl, by omega, fun i hi => by omega, fun h => absurd h (by omega)⟩
  · simp at hcs; subst hcs
    rw [hc] at hx
    have hlm : len ≤ m := by rw [hmm]; split <;> omega
    have one : ∀ i, i < len → ∃ o : OpD, o.d < 256 ∧ w.cells? base (a.add (i * 3)) 3 = some (opCells o) := fun i hi => by
      obtain ⟨cs', h1, h2⟩ := hx i (by omega)
      obtain ⟨o, ho, rfl⟩ := op_of_trod h2
      exact ⟨o, ho, h1⟩
    haveI : Inhabited OpD := ⟨opz⟩
    obtain ⟨F, hF⟩ := choose_lt one
    have hg : ∀ i, i < len → ((List.range len).map F).getD i opz = F i := fun i hi => by simp [List.getD, hi]
    refine ⟨some a, len, cap, (List.range len).map F, rfl, hl, by simp, by unfold maxLen at hm; omega, fun i hi => by rw [hg i hi]; exact (hF i hi).1, fun hp => ?_⟩
    obtain ⟨b, off, ha⟩ := addr_plain (hF 0 hp).2 (by omega)
    have e0 : a.add (0 * 3) = a := by simp [Addr.add]
    rw [e0] at ha
    subst ha
    refine ⟨b, off, rfl, ?_, fun i hi j hj => ?_⟩
    · obtain ⟨_, _, hc0⟩ := World.cells?_some (hF 0 hp).2
      rw [e0] at hc0
      have := hc0 0 (by omega)
      exact World.block_lt_of_cell? w _ (this.trans rfl)
    · rw [hg i hi]
      obtain ⟨_, _, hc0⟩ := World.cells?_some (hF i hi).2
      simp only [add_plain] at hc0
      exact hc0 j hj
end
set_option maxRecDepth 100000 in
theorem ops_of_arg {H : Type} {enc : TypeId × Value → H} {w : World} {r : Reach} {b0 base : Nat} {spare : Nat → Bool} {held : Bool} {v : Value} {d : DataW H} {p : List MemPlace} (hv : Value.okWide Try.prog w r b0 36 v) (h : DataW.Trod enc Try.prog w base spare held 36 v d p) :
    ∃ a n cap os, v = .slice a n cap ∧ n ≤ cap ∧ OpsV w a n os := by
  obtain ⟨a, n, cap, rfl⟩ := okWide_slice Try.underlying36 hv
  obtain ⟨fuel, hf⟩ := h
  exact ops_of_trod (v := .slice a n cap) (by simpa [Value.cells] using hf)
end Go.Proofs.Ytbaljpamhmbcjaa
/- What the law HistoryRuns stands on. -/
namespace Go.Proofs.Ytbaljpamhmbcjaa
open Go.RowKit Go.Shelf
/-- Where a round of HistoryRuns stands. -/
structure RunI (w : World) (m q g : Nat) (L : List Bs) (k : Wk) (xb : Option Addr) (cb : Nat) (y : Option Addr) (d : Nat) (W : World) : Prop where
  his : His W q m L k xb cb
  sees : SeesL W y d L
  good : GoodL m L
  fit : k.Fit L
  r : W.heap[g]? = some (.cells (hisCells m y L.length d k) 41 (0, 0))
  ge : w.heap.size ≤ q
  gg : w.heap.size ≤ g
  bel : Below w.heap.size w W
theorem RunI.below {w W W' : World} {m q g : Nat} {L : List Bs} {k : Wk} {xb : Option Addr} {cb : Nat} {y : Option Addr} {d : Nat} (h : RunI w m q g L k xb cb y d W) (hb : Below W.heap.size W W') : RunI w m q g L k xb cb y d W' :=
  ⟨h.his.below hb, h.sees.below hb, h.good, h.fit, (hb.block g (Array.getElem?_eq_some_iff.1 h.r).1).trans h.r, h.ge, h.gg, h.bel.trans (below_le hb h.bel.size)⟩
theorem RunI.ne {w W : World} {m q g : Nat} {L : List Bs} {k : Wk} {xb : Option Addr} {cb : Nat} {y : Option Addr} {d : Nat} (h : RunI w m q g L k xb cb y d W) : g ≠ q := fun e => by
  have h1 := h.r
  rw [e, h.his.hd] at h1
  cases h1
theorem RunI.rbut {w W W' : World} {m q g : Nat} {L : List Bs} {k : Wk} {xb : Option Addr} {cb : Nat} {y : Option Addr} {d : Nat} (h : RunI w m q g L k xb cb y d W) (hb : But [q] W W') : W'.heap[g]? = some (.cells (hisCells m y L.length d k) 41 (0, 0)) :=
  hb.heap h.r (by simpa using h.ne)
theorem RunI.fork {w W W' : World} {m q g : Nat} {L : List Bs} {k : Wk} {xb : Option Addr} {cb : Nat} {y : Option Addr} {d : Nat} (h : RunI w m q g L k xb cb y d W) (hb : But [q] W W') {q' : Nat} {xb' : Option Addr} {cb' : Nat} (hh : His W' q' m L k xb' cb') (hq : W.heap.size ≤ q') : RunI w m q' g L k xb' cb' y d W' :=
  ⟨hh, h.sees.but h.his hb, h.good, h.fit, h.rbut hb, Nat.le_trans h.bel.size hq, h.gg, h.bel.trans (hb.toBelow h.bel.size (fun j hj => by have := h.ge; simp at hj; omega))⟩
theorem RunI.store {w W W' : World} {m q g : Nat} {L : List Bs} {k : Wk} {xb : Option Addr} {cb : Nat} {y : Option Addr} {d : Nat} (h : RunI w m q g L k xb cb y d W) (hb : But [q] W W') {L' : List Bs} {k' : Wk} {xb' : Option Addr} {cb' : Nat} {y' : Option Addr} {d' : Nat} (hh : His W' q m L' k' xb' cb') (hs : SeesL W' y' d' L') (hg : GoodL m L') (hk : k'.Fit L') :
    RunI w m q g L' k' xb' cb' y' d' (((((((W'.setCell ⟨g, 0, none⟩ (.int .i64 m)).setCell ⟨g, 1, none⟩ (.slice y' L'.length d')).setCell ⟨g, 2, none⟩ (.bool k'.on)).setCell ⟨g, 3, none⟩ (.string (tx k'.d))).setCell ⟨g, 4, none⟩ (.string (tx k'.bg))).setCell ⟨g, 5, none⟩ (.int .i64 k'.at_))) := by
  have hr := h.rbut hb
  have hne := h.ne
  have hr2 := hr
  unfold hisCells at hr2
  have hgl := h.gg
  have hB : Below w.heap.size w W' := h.bel.trans (hb.toBelow h.bel.size (fun j hj => by have := h.ge; simp at hj; omega))
  refine ⟨⟨(set6_other (Ne.symm hne) _ _ _ _ _ _).trans hh.hd, hh.row.kept (fun j hj => set6_other (fun e => ?_) _ _ _ _ _ _)⟩, ⟨hs.1, hs.2.1, fun hp => ?_⟩, hg, hk, set6_heap hr2 _ _ _ _ _ _, h.ge, h.gg, set6_below hB hgl _ _ _ _ _ _⟩
  · obtain ⟨_, cur, hc⟩ := hh.row.lt j hj
    rw [e, hr] at hc
    cases hc
  · obtain ⟨i, h1, h2, h3⟩ := hs.2.2 hp
    have hni : i ≠ g := fun e => by
      have h4 := h3 0 hp
      rw [e] at h4
      simp [World.cell?, hr2] at h4
    exact ⟨i, h1, by simpa using h2, fun j hj => (World.cell?_of_block (a := ⟨i, j, none⟩) (set6_other hni _ _ _ _ _ _)).trans (h3 j hj)⟩
theorem RunI.start {w W : World} {m : Nat} {g : Nat} (hb : Below w.heap.size w W) (h1 : W.heap[w.heap.size]? = some (.cells #[.int .i64 m, .slice none 0 0, .bool false, .string ⟨#[]⟩, .string ⟨#[]⟩, .int .i64 0] 60 (0, 0))) (h2 : W.heap[g]? = some (.cells #[.int .i64 m, .slice none 0 0, .bool false, .string ⟨#[]⟩, .string ⟨#[]⟩, .int .i64 0] 41 (0, 0))) (hg : w.heap.size ≤ g) : RunI w m w.heap.size g [] Wk.no none 0 none 0 W :=
  ⟨⟨h1, RowL.nil W⟩, ⟨by simp, by simp, fun h => absurd h (by simp)⟩, goodL_nil m, no_fit [], h2, Nat.le_refl _, hg, hb⟩
end Go.Proofs.Ytbaljpamhmbcjaa
/- Walk: the law HistoryRuns. -/
namespace Go.Proofs.Ytbaljpamhmbcjaa
open Go.RowKit Go.Shelf
set_option maxRecDepth 100000 in
set_option maxHeartbeats 1000000 in
theorem runs_bad (m at_ : Int) (hm : m < 1 ∨ 256 < m) (x : Option Addr) (n c : Nat) (stop : Nat) (hn : n ≤ 9223372036854775807) (w : World) :
    Calls Try.prog 4 #[.int .i64 m, .slice x n c, .int .i64 at_, .int .u8 stop] w fun e w' => e = .returned (.bool true) ∧ Below w.heap.size w w' := by
  have HN := Lib.hid (fun W => wnewH_no m hm W)
  have HR := Lib.hid (fun W => rNew_no m hm W)
  have HA := Lib.hid (fun W => wawake W)
  have HE : Hid (rV 0 none 0 0 Wk.no = .agg #[.int .i64 0, .slice none 0 0, .bool false, .string ⟨#[]⟩, .string ⟨#[]⟩, .int .i64 0]) := Lib.hid rfl
  rw [HE.out] at HR
  clear HE hm
  go_enter Try.func4, Try.ntmps4
  go_wp2_with (first | (go_at_call 16; (with_reducible refine (HN.out _).mono ?_); rintro e w' ⟨rfl, rfl⟩) | (go_at_call 17; fail) | (go_at_call 15; fail))
  go_at_call 17
  refine (HR.out _).mono ?_
  rintro e w1 ⟨rfl, hb1⟩
  have HB1 := Lib.hid hb1
  clear hb1 HN HR
  go_wp2_with (first | (go_at_call 15; fail))
  go_at_call 15
  refine (HA.out _).mono ?_
  rintro e w2 ⟨rfl, hb2⟩
  have HB2 := Lib.hid (((HB1.out.alloc HB1.out.size _).trans (below_le hb2 (by have := HB1.out.size; simp; omega))) : Below w.heap.size w w2)
  clear hb2
  go_wp2
  go_loopw [9, 13] (fun p i wr => p = .pointer none ∧ i = .int .i64 0 ∧ Hid (Below w.heap.size w wr)) (fun _ _ _ => 0)
  case atStart => exact ⟨rfl, rfl, HB2⟩
  case round =>
    obtain ⟨rfl, rfl, HW⟩ := hrel
    by_cases hlt : (0 : Int) < (n : Int)
    · go_wp2
      go_ret
      exact ⟨rfl, HW.out⟩
    · go_wp2
      go_ret
      exact ⟨rfl, HW.out⟩
set_option maxRecDepth 100000 in
set_option maxHeartbeats 4000000 in
theorem runs_good (m : Nat) (at_ : Int) (hm1 : 1 ≤ m) (hm2 : m ≤ 256) (x : Option Addr) (n c : Nat) (stop : Nat) (hst : stop ≤ 255) (os : List OpD) (w : World) (ho : OpsV w x n os) :
    Calls Try.prog 4 #[.int .i64 m, .slice x n c, .int .i64 at_, .int .u8 stop] w fun e w' => e = .returned (.bool true) ∧ Below w.heap.size w w' := by
  have HO := Lib.hid ho
  have hn := ho.2.1
  have HN := Lib.hid (wnewH m (by omega) (by omega) w)
  have HR := Lib.hid (fun W => rNew m (by omega) (by omega) W)
  have HA := Lib.hid (fun W => wawake W)
  have HE : Hid (rV m none 0 0 Wk.no = .agg #[.int .i64 m, .slice none 0 0, .bool false, .string ⟨#[]⟩, .string ⟨#[]⟩, .int .i64 0]) := Lib.hid rfl
  rw [HE.out] at HR
  clear HE ho
  go_enter Try.func4, Try.ntmps4
  go_wp2_with (first | (go_at_call 16; (with_reducible refine HN.out.mono ?_); rintro e w' ⟨rfl, rfl⟩) | (go_at_call 17; fail))
  go_at_call 17
  refine (HR.out _).mono ?_
  rintro e w1 ⟨rfl, hb1⟩
  have HB1 := Lib.hid hb1
  clear hb1 HN HR
  go_wp2_with (first | (go_at_call 15; fail))
  go_at_call 15
  refine (HA.out _).mono ?_
  rintro e w2 ⟨rfl, hb2⟩
  have hw1 : w.heap.size < w1.heap.size := by have := HB1.out.size; simp at this; omega
  have HW1 := Lib.hid hw1
  have HS0 : Hid (RunI w m w.heap.size w1.heap.size [] Wk.no none 0 none 0 w2) := Lib.hid (RunI.start (((((Below.refl w.heap.size w).alloc (Nat.le_refl _) _).trans (below_le HB1.out (by simp))).alloc (by omega) _).trans (below_le hb2 (by simp; omega))) ((hb2.block _ (by simp; omega)).trans ((heap_alloc_old _ _ hw1).trans ((HB1.out.block _ (by simp)).trans (heap_alloc_new _ _)))) ((hb2.block _ (by simp)).trans (heap_alloc_new _ _)) (by omega))
  clear hb2 HA HB1 hw1
  go_wp2
  go_loopw [9, 13] (fun p i wr => ∃ k q, k ≤ n ∧ k ≤ 60 ∧ i = .int .i64 (k : Int) ∧ p = .pointer (some ⟨q, 0, none⟩) ∧ Hid (∃ L kk xb cb y d, RunI w m q w1.heap.size L kk xb cb y d wr)) (fun _ i _ => n - (intOf i).toNat)
  case atStart => exact ⟨0, w.heap.size, by omega, by omega, rfl, rfl, Lib.hid ⟨_, _, _, _, _, _, HS0.out⟩⟩
  case round =>
    obtain ⟨k, q, hk, hk6, rfl, rfl, HQ⟩ := hrel
    by_cases hlt : k < n
    · by_cases h60 : k < 60
      · obtain ⟨L, kk, xb, cb, y, d, HI⟩ := HQ.out
        have HI := Lib.hid HI
        obtain ⟨bx, off, rfl, hbx, hcx⟩ := HO.out.2.2.2 (by omega)
        have hcj := hcx k hlt
        have hdk := HO.out.2.2.1 k hlt
        generalize os.getD k opz = o at hcj hdk
        obtain ⟨od, oS, oT⟩ := o
        have hcw := fun t (ht : t < 3) => (HI.out.bel.cell (p := ⟨bx, off + k * 3 + t, none⟩) hbx).trans (hcj t ht)
        have p0 : wr.cell? ⟨bx, off + k * 3, none⟩ = some (.int .u8 od) := hcw 0 (by omega)
        have p1 : wr.cell? ⟨bx, off + k * 3 + 1, none⟩ = some (.string (tx oS)) := hcw 1 (by omega)
        have p2 : wr.cell? ⟨bx, off + k * 3 + 2, none⟩ = some (.string (tx oT)) := hcw 2 (by omega)
        have i1 : (0 : Int) ≤ (k : Int) := by omega
        have i2 : (k : Int) < (n : Int) := by omega
        have i3 : (k : Int) < 60 := by omega
        simp only at hdk
        clear hcx hcj hcw HQ
        by_cases h7 : od % 8 = 7
        · have r1 : (od : Int).tmod 8 = 7 := by rw [Int.tmod_eq_emod_of_nonneg (by omega)]; omega
          have HFK := Lib.hid (wforked q m hm1 hm2 L (by have := HI.out.good.1; omega) kk xb cb wr HI.out.his)
          go_wp2_with (first | (go_at_call 18; fail))
          go_at_call 18
          refine HFK.out.mono ?_
          rintro e w3 ⟨q3, x3, c3, rfl, hq3, hge3, hb3⟩
          have HI3 := Lib.hid (HI.out.fork hb3 hq3 hge3)
          clear hq3 hge3 hb3 HFK HI p0 p1 p2
          have hr3 := HI3.out.r
          unfold hisCells at hr3
          have hlen := HI3.out.good.1
          obtain ⟨g0, g1, g2, g3, g4, g5, -⟩ := cells6 hr3
          have HSH := Lib.hid (wshows q3 m (by omega) L (by omega) kk x3 c3 y d m kk at_ stop hst w3 HI3.out.his HI3.out.sees)
          unfold rV hisCells at HSH
          have i5 : ¬ (m : Int) < (L.length : Int) := by omega
          clear hr3 hlen
          go_wp2_with (first | (go_at_call 20; fail))
          go_at_call 20
          refine HSH.out.mono ?_
          rintro e w4 ⟨rfl, hb4⟩
          have HI4 := Lib.hid (HI3.out.below hb4)
          clear hb4 HSH HI3 g0 g1 g2 g3 g4 g5
          have HLN := Lib.hid (wHlen q3 m (by omega) L kk _ _ w4 HI4.out.his)
          go_wp2_with (first | (go_at_call 21; fail))
          go_at_call 21
          refine HLN.out.mono ?_
          rintro e w5 ⟨rfl, rfl⟩
          have HTO := Lib.hid (wHtold q3 m (by omega) L (by have := HI4.out.good.1; omega) kk _ _ 1000 (by omega) w4 HI4.out.his)
          rw [show ((1000 : Nat) : Int) = 1000 from rfl] at HTO
          unfold ToldH at HTO
          rw [List.take_of_length_le (by have := HI4.out.good.1; omega)] at HTO
          clear HLN
          go_wp2_with (first | (go_at_call 11; fail))
          go_at_call 11
          refine HTO.out.mono ?_
          rintro e w6 ⟨ay, ac, rfl, ha6, hb6⟩
          have HI6 := Lib.hid (HI4.out.below hb6)
          have HON := Lib.hid (wonce ay ac L HI4.out.good.2.2 w6 (ha6.sees (by have := HI4.out.good.1; omega)))
          clear hb6 ha6 HTO HI4
          go_wp2_with (first | (go_at_call 22; fail))
          go_at_call 22
          refine HON.out.mono ?_
          rintro e w7 ⟨rfl, hb7⟩
          have HI7 := Lib.hid (HI6.out.below hb7)
          clear hb7 HON HI6
          go_wp2
          go_roundw
          case rel => exact ⟨k + 1, q3, by omega, by omega, by go_num, rfl, Lib.hid ⟨_, _, _, _, _, _, HI7.out⟩⟩
          case measure => simp [intOf]; omega
        · have r1 : ¬ (od : Int).tmod 8 = 7 := by rw [Int.tmod_eq_emod_of_nonneg (by omega)]; omega
          have HD := Lib.hid (HI.out.below (Below.refl _ _).drew)
          have HSD := Lib.hid (wopStep q m hm1 hm2 L HI.out.good kk HI.out.fit xb cb y d od hdk oS oT wr.drew HD.out.his HD.out.sees)
          have HRV : Hid (∀ y n d k, rV m y n d k = .agg #[.int .i64 m, .slice y n d, .bool k.on, .string (tx k.d), .string (tx k.bg), .int .i64 k.at_]) := Lib.hid (fun _ _ _ _ => rfl)
          rw [HRV.out] at HSD
          have hr := HI.out.r
          unfold hisCells at hr
          obtain ⟨g0, g1, g2, g3, g4, g5, -⟩ := cells6 hr
          clear hr
          go_upto_region 11 with (fail)
          go_cut [14] (fun ok wx => ok = .bool true ∧ Hid (∃ L' k' xb' cb' y' d', RunI w m q w1.heap.size L' k' xb' cb' y' d' wx))
          case first =>
            go_region_with (go_at_call 19; (with_reducible refine HSD.out.mono ?_); rintro e w3 ⟨y3, d3, L3, k3, he, ⟨x3, c3, hh3⟩, hs3, hg3, hk3, hb3⟩; rw [HRV.out] at he; subst he; have HI3 := Lib.hid (HD.out.store hb3 hh3 hs3 hg3 hk3); have hz := HD.out.rbut hb3; unfold hisCells at hz; obtain ⟨z0, z1, z2, z3, z4, z5, zz⟩ := cells6 hz; have zf0 := zz 0; have zf1 := zz 1; have zf2 := zz 2; have zf3 := zz 3; have zf4 := zz 4; have zf5 := zz 5; clear hh3 hs3 hg3 hk3 hb3 hz zz)
            all_goals (go_wp2; go_meet; exact ⟨rfl, Lib.hid ⟨_, _, _, _, _, _, HI3.out⟩⟩)
          case rest =>
            obtain ⟨rfl, HQ3⟩ := hcut
            clear HD HSD HRV g0 g1 g2 g3 g4 g5 HI p0 p1 p2
            obtain ⟨L3, k3, x3, c3, y3, d3, HI3⟩ := HQ3.out
            have HI3 := Lib.hid HI3
            clear HQ3
            have hr3 := HI3.out.r
            unfold hisCells at hr3
            have hlen := HI3.out.good.1
            obtain ⟨g0, g1, g2, g3, g4, g5, -⟩ := cells6 hr3
            have HSH := Lib.hid (wshows q m (by omega) L3 (by omega) k3 x3 c3 y3 d3 m k3 at_ stop hst wc HI3.out.his HI3.out.sees)
            unfold rV hisCells at HSH
            have i5 : ¬ (m : Int) < (L3.length : Int) := by omega
            clear hr3 hlen
            go_wp2_with (first | (go_at_call 20; fail))
            go_at_call 20
            refine HSH.out.mono ?_
            rintro e w4 ⟨rfl, hb4⟩
            have HI4 := Lib.hid (HI3.out.below hb4)
            clear hb4 HSH HI3 g0 g1 g2 g3 g4 g5
            have HLN := Lib.hid (wHlen q m (by omega) L3 k3 _ _ w4 HI4.out.his)
            go_wp2_with (first | (go_at_call 21; fail))
            go_at_call 21
            refine HLN.out.mono ?_
            rintro e w5 ⟨rfl, rfl⟩
            have HTO := Lib.hid (wHtold q m (by omega) L3 (by have := HI4.out.good.1; omega) k3 _ _ 1000 (by omega) w4 HI4.out.his)
            rw [show ((1000 : Nat) : Int) = 1000 from rfl] at HTO
            unfold ToldH at HTO
            rw [List.take_of_length_le (by have := HI4.out.good.1; omega)] at HTO
            clear HLN
            go_wp2_with (first | (go_at_call 11; fail))
            go_at_call 11
            refine HTO.out.mono ?_
            rintro e w6 ⟨ay, ac, rfl, ha6, hb6⟩
            have HI6 := Lib.hid (HI4.out.below hb6)
            have HON := Lib.hid (wonce ay ac L3 HI4.out.good.2.2 w6 (ha6.sees (by have := HI4.out.good.1; omega)))
            clear hb6 ha6 HTO HI4
            go_wp2_with (first | (go_at_call 22; fail))
            go_at_call 22
            refine HON.out.mono ?_
            rintro e w7 ⟨rfl, hb7⟩
            have HI7 := Lib.hid (HI6.out.below hb7)
            clear hb7 HON HI6
            go_wp2
            go_roundw
            case rel => exact ⟨k + 1, q, by omega, by omega, by go_num, rfl, Lib.hid ⟨_, _, _, _, _, _, HI7.out⟩⟩
            case measure => simp [intOf]; omega
      · have i3 : ¬ (k : Int) < 60 := by omega
        have i4 : (k : Int) < (n : Int) := by omega
        obtain ⟨L, kk, xb, cb, y, d, HI⟩ := HQ.out
        have HE := Lib.hid HI.bel
        clear HI HQ
        go_wp2
        go_ret
        exact ⟨rfl, HE.out⟩
    · have i3 : ¬ (k : Int) < (n : Int) := by omega
      obtain ⟨L, kk, xb, cb, y, d, HI⟩ := HQ.out
      have HE := Lib.hid HI.bel
      clear HI HQ
      go_wp2
      go_ret
      exact ⟨rfl, HE.out⟩
theorem runs_any (m at_ : Int) (x : Option Addr) (n c : Nat) (stop : Nat) (hst : stop ≤ 255) (os : List OpD) (w : World) (ho : OpsV w x n os) :
    Calls Try.prog 4 #[.int .i64 m, .slice x n c, .int .i64 at_, .int .u8 stop] w fun e w' => e = .returned (.bool true) ∧ Below w.heap.size w w' := by
  by_cases hm : m < 1 ∨ 256 < m
  · exact runs_bad m at_ hm x n c stop ho.2.1 w
  · obtain ⟨M, rfl⟩ := Int.eq_ofNat_of_zero_le (show 0 ≤ m by omega)
    exact runs_good M at_ (by omega) (by omega) x n c stop hst os w ho
theorem runs_arg (m at_ stop : Int) (h1 : 0 ≤ stop) (h2 : stop ≤ 255) (x : Option Addr) (n c : Nat) (os : List OpD) (w : World) (ho : OpsV w x n os) :
    Calls Try.prog 4 #[.int .i64 m, .slice x n c, .int .i64 at_, .int .u8 stop] w fun e w' => e = .returned (.bool true) ∧ Below w.heap.size w w' := by
  obtain ⟨S, rfl⟩ := Int.eq_ofNat_of_zero_le h1
  exact runs_any m at_ x n c S (by omega) os w ho
end Go.Proofs.Ytbaljpamhmbcjaa
