/- Runs: the reference's Note of a kind that is there. -/
import Derived.Test.YtcbdmaffcjdnbaaS12
namespace Go.Proofs.Ytcbdmaffcjdnbaa
open Go.RowKit Go.Shelf Go.Maps Go.ChangeMaps
/-- A block of seven cells of the reference's tally. -/
def RBox (w : World) (j : Nat) (a b c d e f g : Value) : Prop := w.heap[j]? = some (.cells #[a, b, c, d, e, f, g] 58 (0, 0))
theorem RBox.get {w : World} {j : Nat} {a b c d e f g : Value} (h : RBox w j a b c d e f g) : (w.cell? ⟨j, 0, none⟩ = some a ∧ w.cell? ⟨j, 1, none⟩ = some b ∧ w.cell? ⟨j, 2, none⟩ = some c ∧ w.cell? ⟨j, 3, none⟩ = some d ∧ w.cell? ⟨j, 4, none⟩ = some e ∧ w.cell? ⟨j, 5, none⟩ = some f ∧ w.cell? ⟨j, 6, none⟩ = some g) ∧ (∀ o, w.frozen? ⟨j, o, none⟩ = false) ∧ j < w.heap.size := by
  unfold RBox at h
  exact ⟨⟨by simp [World.cell?, h], by simp [World.cell?, h], by simp [World.cell?, h], by simp [World.cell?, h], by simp [World.cell?, h], by simp [World.cell?, h], by simp [World.cell?, h]⟩, fun o => by simp [World.frozen?, h], (Array.getElem?_eq_some_iff.1 h).1⟩
theorem RBox.set2 {w : World} {j : Nat} {a b c d e f g : Value} (h : RBox w j a b c d e f g) (v : Value) : RBox (w.setCell ⟨j, 2, none⟩ v) j a b v d e f g := by
  unfold RBox at h ⊢
  obtain ⟨hlt, hk⟩ := Array.getElem?_eq_some_iff.1 h
  show (w.heap.modify j _)[j]? = _
  rw [Array.getElem?_eq_getElem (by rw [Array.size_modify]; exact hlt), Array.getElem_modify_self, hk]
  rfl
theorem row_free {w : World} {n0 : Nat} {e : TypeId} {z n g cap : Nat} {xs : List Value} (h : w.ownsRow n0 e z (.slice (some ⟨g, 0, none⟩) n cap) n xs) : ∀ o, w.frozen? ⟨g, o, none⟩ = false := by
  obtain ⟨cur, hg, _⟩ := row_block h (j := g) rfl
  intro o; simp [World.frozen?, hg]
theorem rflat_one {ks : List Kd} : ∀ u ∈ rflat ks, u.oneCell' = true := by
  intro u hu
  simp only [rflat, List.mem_flatMap, rcell] at hu
  obtain ⟨k, _, hk⟩ := hu
  simp at hk
  rcases hk with rfl | rfl | rfl | rfl <;> rfl
theorem owns_empty (w : World) (B : Nat) (h : B ≤ w.heap.size) : (w.alloc (.cells #[] 56)).ownsRow B 56 4 (.slice (some ⟨w.heap.size, 0, none⟩) 0 0) 0 [] :=
  ⟨rfl, .inr ⟨w.heap.size, 0, #[], rfl, h, World.alloc_heap_new w _, Nat.le_refl _, Nat.zero_le _, rfl, rfl⟩⟩
theorem box_grown {w w1 : World} {a b c : Obj} (hg : (((w.alloc a).alloc b).alloc c).grownBy w1 (some (w.heap.size + 1 + 1))) : w1.heap[w.heap.size]? = some a ∧ w1.heap[w.heap.size + 1]? = some b ∧ Below w.heap.size w w1 := by
  have hB : Below w.heap.size w (((w.alloc a).alloc b).alloc c) := (((Below.refl _ w).alloc (Nat.le_refl _) _).alloc (by simp) _).alloc (by simp; omega) _
  refine ⟨?_, ?_, hB.grown hg (by simp; omega) (fun k e => by simp at e; omega)⟩
  · rw [hg.block _ (by simp; omega) (by simp; omega), Below.heap_alloc _ _ _ (by simp; omega), Below.heap_alloc _ _ _ (by simp)]
    exact World.alloc_heap_new w a
  · rw [hg.block _ (by simp) (by simp), Below.heap_alloc _ _ _ (by simp)]
    have := World.alloc_heap_new (w.alloc a) b
    rwa [World.size_alloc] at this
theorem rflat_set (ks : List Kd) (k : Nat) (kk : Kd) : ((((rflat ks).set (k * 4) (.string kk.s)).set (k * 4 + 1) (.int .i64 kk.c)).set (k * 4 + 2) (.int .i64 kk.a)).set (k * 4 + 3) (.int .i64 kk.t) = rflat (ks.set k kk) := by
  induction ks generalizing k with
  | nil => simp [rflat]
  | cons x ks ih =>
    have e : ∀ y, rflat (y :: ks) = .string y.s :: .int .i64 y.c :: .int .i64 y.a :: .int .i64 y.t :: rflat ks := fun y => by simp [rflat, rcell]
    cases k with
    | zero =>
      show _ = rflat (kk :: ks)
      rw [e x, e kk]; rfl
    | succ k =>
      have e2 : rflat (x :: ks.set k kk) = .string x.s :: .int .i64 x.c :: .int .i64 x.a :: .int .i64 x.t :: rflat (ks.set k kk) := by simp [rflat, rcell]
      rw [e, List.set_cons_succ, e2, ← ih k]
      rw [show (k + 1) * 4 = k * 4 + 1 + 1 + 1 + 1 by omega, show k * 4 + 1 + 1 + 1 + 1 + 1 = (k * 4 + 1) + 1 + 1 + 1 + 1 by omega]
      rfl
def RBoxS (w : World) (j : Nat) (S : TS) (lv : Value) : Prop := RBox w j (.int .i64 S.bound) (.int .i64 S.over) lv (.string ByteArray.empty) (.int .i64 S.c) (.int .i64 S.a) (.int .i64 S.t)
def RBoxZ (w : World) (j : Nat) : Prop := RBox w j (.int .i64 0) (.int .i64 0) (.slice none 0 0) (.string ⟨#[]⟩) (.int .i64 0) (.int .i64 0) (.int .i64 0)
abbrev W11 (w2 : World) (g1 k : Nat) (kk : Kd) : World := (((w2.setCell ⟨g1, k * 4, none⟩ (.string kk.s)).setCell ⟨g1, k * 4 + 1, none⟩ (.int .i64 kk.c)).setCell ⟨g1, k * 4 + 2, none⟩ (.int .i64 kk.a)).setCell ⟨g1, k * 4 + 3, none⟩ (.int .i64 kk.t)
theorem RBox.keep {w w' : World} {j : Nat} {a b c d e f g : Value} (h : RBox w j a b c d e f g) (hB : Below w.heap.size w w') : RBox w' j a b c d e f g := (hB.block j h.get.2.2).trans h
theorem after11 {w W w2 : World} {g1 k N cap1 : Nat} {ks : List Kd} {S : TS} {lv : Value} (kk : Kd) (hB2 : Below W.heap.size W w2) (hrb : RBoxS W w.heap.size S lv) (hrz : RBoxZ W (w.heap.size + 1))
    (hrw : W.ownsRow (w.heap.size + 2) 56 4 (.slice (some ⟨g1, 0, none⟩) N cap1) N (rflat ks)) (hw : Below w.heap.size w W) :
    RBoxS (W11 w2 g1 k kk) w.heap.size S lv ∧ RBoxZ (W11 w2 g1 k kk) (w.heap.size + 1) ∧ (W11 w2 g1 k kk).ownsRow (w.heap.size + 2) 56 4 (.slice (some ⟨g1, 0, none⟩) N cap1) N (rflat (ks.set k kk)) ∧ Below w.heap.size w (W11 w2 g1 k kk) := by
  obtain ⟨cur, hg, hge⟩ := row_block hrw (j := g1) rfl
  have r0 : w2.ownsRow (w.heap.size + 2) 56 4 (.slice (some ⟨g1, 0, none⟩) N cap1) N (rflat ks) := row_kept hrw (fun j hj => hB2.block j (by
    have : g1 = j := (by simpa [Value.ownBlock] using hj)
    subst this; exact (Array.getElem?_eq_some_iff.1 hg).1))
  have hb : ∀ j, j < W.heap.size → j ≠ g1 → (W11 w2 g1 k kk).heap[j]? = W.heap[j]? := fun j hj h => by
    rw [set_other h, set_other h, set_other h, set_other h]; exact hB2.block j hj
  refine ⟨(hb _ hrb.get.2.2 (by omega)).trans hrb, (hb _ hrz.get.2.2 (by omega)).trans hrz, ?_, ?_⟩
  · rw [← rflat_set]
    exact ((((r0.stored _ _).1.stored _ _).1.stored _ _).1.stored _ _).1
  · exact (((hw.trans (hB2.mono hw.size)).setCell (p := ⟨g1, _, none⟩) (by show _ ≤ g1; omega) _ |>.setCell (p := ⟨g1, _, none⟩) (by show _ ≤ g1; omega) _).setCell (p := ⟨g1, _, none⟩) (by show _ ≤ g1; omega) _).setCell (p := ⟨g1, _, none⟩) (by show _ ≤ g1; omega) _
theorem RBox.upd {w : World} {j : Nat} {a b c d e f g a' b' c' d' e' f' g' : Value} (h : RBox w j a b c d e f g) (o : Nat) (v : Value) (hS : #[a, b, c, d, e, f, g].setIfInBounds o v = #[a', b', c', d', e', f', g']) : RBox (w.setCell ⟨j, o, none⟩ v) j a' b' c' d' e' f' g' := by
  unfold RBox at h ⊢
  rw [heap_setCell_same w j o _ _ v h, hS]
theorem RBox.skip {w : World} {j i o : Nat} {v a b c d e f g : Value} (h : RBox w j a b c d e f g) (hi : j ≠ i) : RBox (w.setCell ⟨i, o, none⟩ v) j a b c d e f g := (set_other hi).trans h
theorem rfin {w W5 w4 Wf : World} {n0 N g1 cap1 : Nat} {S S' : TS} {s : ByteArray} {n : Int} {ks : List Kd} (hn0 : n0 ≤ w.heap.size) (P3 : W5.ownsRow (w.heap.size + 2) 56 4 (.slice (some ⟨g1, 0, none⟩) N cap1) N (rflat ks)) (P4 : Below w.heap.size w W5) (hB4 : Below W5.heap.size W5 w4)
    (hbut : But [w.heap.size, w.heap.size + 1] w4 Wf) (hE : noteE S s n = 0) (hS : noteS S s n = S') (hk : S'.ks = ks) (hN : S'.ks.length = N) {e : Ending} (he : e = .returned (.tuple #[rT S' (.slice (some ⟨g1, 0, none⟩) N cap1), .int .i64 0])) : RNoteEnd w n0 S s n e Wf := by
  refine ⟨(P4.trans (hB4.mono P4.size)).trans (hbut.toBelow (by have := P4.size; have := hB4.size; omega) (by intro j hj; simp at hj; omega)), some ⟨g1, 0, none⟩, cap1, ?_, ?_⟩
  · rw [hS, hE, hN]; exact he
  · rw [hS, hN, hk]
    obtain ⟨cur, hg, hge⟩ := row_block P3 (j := g1) rfl
    have hlt := (Array.getElem?_eq_some_iff.1 hg).1
    have h1 : Wf.ownsRow (w.heap.size + 2) 56 4 (.slice (some ⟨g1, 0, none⟩) N cap1) N (rflat ks) := row_kept P3 (fun j hj => by
      have : g1 = j := (by simpa [Value.ownBlock] using hj)
      subst this
      rw [hbut.block g1 (by have := hB4.size; omega) (by simp; omega), hB4.block g1 hlt])
    exact owns_weak h1 (by omega)
set_option maxRecDepth 100000 in
set_option maxHeartbeats 8000000 in
theorem rnote_there (S : TS) (x : Option Addr) (cap : Nat) (w : World) (n0 m : Nat) (hn0 : n0 ≤ w.heap.size) (hok : TOk m S) (hm : m ≤ 100) (hr : w.ownsRow n0 56 4 (.slice x S.ks.length cap) S.ks.length (rflat S.ks)) (s : ByteArray) (n : Int) (hb : badNote s n = false) (hp : plc S.ks s < S.ks.length) : Calls Try.prog 22 #[rT S (.slice x S.ks.length cap), .string s, .int .i64 n] w (RNoteEnd w n0 S s n) := by
  unfold rT
  obtain ⟨b1, b2, b3, b4⟩ := badNote_no hb
  have t1 := string_emp s false (decide_eq_false b1)
  obtain ⟨N, hN⟩ : ∃ N, S.ks.length = N := ⟨_, rfl⟩
  obtain ⟨g, rfl, hg0, hg1, hg2, hg3, hcs⟩ := rrow_cells hr rfl (by omega)
  have HR := Lib.hid hr
  have hlen := hok.len
  have HOK := Lib.hid hok
  rw [hN] at HR hlen hg2 hcs hp ⊢
  have HN := Lib.hid hN
  have HP := Lib.hid hp
  have HE := Lib.hid (show noteE S s n = 0 by unfold noteE; rw [hb]; simp only [Bool.false_eq_true, if_false]; rw [if_neg (by omega)])
  have hcs' : ∀ i, i < N → ∀ o v, w.cell? ⟨g, o, none⟩ = some v → ((w.alloc (.cells #[.int .i64 S.bound, .int .i64 S.over, .slice (some ⟨g, 0, none⟩) N cap, .string ByteArray.empty, .int .i64 S.c, .int .i64 S.a, .int .i64 S.t] 58)).alloc (.cells #[.int .i64 0, .int .i64 0, .slice none 0 0, .string ⟨#[]⟩, .int .i64 0, .int .i64 0, .int .i64 0] 58)).cell? ⟨g, o, none⟩ = some v := fun i _ o v hv => by
    rw [← hv]
    exact (((Below.refl w.heap.size w).alloc (Nat.le_refl _) _).alloc (by simp) _).cell hg1
  obtain ⟨i0, hi0, hz0, hz1, hz2⟩ := info_parts56
  have HI0 := Lib.hid hi0
  have HZ0 := Lib.hid hz0
  have HZ1 := Lib.hid hz1
  have HZ2 := Lib.hid hz2
  have HC := Lib.hid hcs
  have HC' := Lib.hid hcs'
  clear hN hb b1 hcs hcs' hr hok hi0 hz0 hz1 hz2
  go_enter Try.func22, Try.ntmps22
  go_wp2
  go_loop [8] (fun i => ∃ k : Nat, k ≤ plc S.ks s ∧ i = .int .i64 (k : Int)) (fun i => N - (intOf i).toNat)
  case atStart => exact ⟨0, Nat.zero_le _, rfl⟩
  case round =>
    obtain ⟨k, hk, rfl⟩ := hrel
    have hlt : k < N := by omega
    obtain ⟨q0, q1, q2, q3⟩ := HC.out k hlt
    have r0 := HC'.out k hlt _ _ q0
    clear q0 q1 q2 q3
    by_cases he : k < plc S.ks s
    · have t2 : ((kn S.ks k).s.toList == s.toList) = false := by rw [beq_bytes]; exact decide_eq_false (plc_before _ _ _ he)
      have HK := Lib.hid he
      clear he
      go_wp2
      go_round
      case rel => exact ⟨k + 1, by have := HK.out; omega, by go_num⟩
      case measure => simp [intOf]; omega
    · have hke : k = plc S.ks s := by omega
      have hks : (kn S.ks k).s = s := by rw [hke]; exact plc_at S.ks s (by have := HN.out; omega)
      have t2 : ((kn S.ks k).s.toList == s.toList) = true := by rw [beq_bytes]; exact decide_eq_true hks
      have HK := Lib.hid hke
      have hkN : ((k : Int) == (N : Int)) = false := by rw [beq_eq_false_iff_ne]; omega
      have HCN := Lib.hid (show ∀ j u, (rflat S.ks)[j]? = some u → ((((w.alloc (.cells #[.int .i64 S.bound, .int .i64 S.over, .slice (some ⟨g, 0, none⟩) N cap, .string ByteArray.empty, .int .i64 S.c, .int .i64 S.a, .int .i64 S.t] 58)).alloc (.cells #[.int .i64 0, .int .i64 0, .slice none 0 0, .string ⟨#[]⟩, .int .i64 0, .int .i64 0, .int .i64 0] 58)).alloc (.cells #[] 56)).cell? ((⟨g, 0, none⟩ : Addr).add j) = some u) by
        intro j u hu
        have h1 := HR.out.cells (g := g) rfl j u hu
        rw [add_at] at h1 ⊢
        rw [← h1]
        exact ((((Below.refl w.heap.size w).alloc (Nat.le_refl _) _).alloc (by simp) _).alloc (by simp; omega) _).cell hg1)
      have HOE := Lib.hid (show (((w.alloc (.cells #[.int .i64 S.bound, .int .i64 S.over, .slice (some ⟨g, 0, none⟩) N cap, .string ByteArray.empty, .int .i64 S.c, .int .i64 S.a, .int .i64 S.t] 58)).alloc (.cells #[.int .i64 0, .int .i64 0, .slice none 0 0, .string ⟨#[]⟩, .int .i64 0, .int .i64 0, .int .i64 0] 58)).alloc (.cells #[] 56)).ownsRow (w.heap.size + 2) 56 4 (.slice (some ⟨w.heap.size + 1 + 1, 0, none⟩) 0 0) 0 [] by
        have := owns_empty ((w.alloc (.cells #[.int .i64 S.bound, .int .i64 S.over, .slice (some ⟨g, 0, none⟩) N cap, .string ByteArray.empty, .int .i64 S.c, .int .i64 S.a, .int .i64 S.t] 58)).alloc (.cells #[.int .i64 0, .int .i64 0, .slice none 0 0, .string ⟨#[]⟩, .int .i64 0, .int .i64 0, .int .i64 0] 58)) (w.heap.size + 2) (by simp)
        simpa using this)
      have HBX := Lib.hid (fun w1 (hg : (((w.alloc (.cells #[.int .i64 S.bound, .int .i64 S.over, .slice (some ⟨g, 0, none⟩) N cap, .string ByteArray.empty, .int .i64 S.c, .int .i64 S.a, .int .i64 S.t] 58)).alloc (.cells #[.int .i64 0, .int .i64 0, .slice none 0 0, .string ⟨#[]⟩, .int .i64 0, .int .i64 0, .int .i64 0] 58)).alloc (.cells #[] 56)).grownBy w1 (some (w.heap.size + 1 + 1))) => box_grown (w := w) (a := .cells #[.int .i64 S.bound, .int .i64 S.over, .slice (some ⟨g, 0, none⟩) N cap, .string ByteArray.empty, .int .i64 S.c, .int .i64 S.a, .int .i64 S.t] 58) (b := .cells #[.int .i64 0, .int .i64 0, .slice none 0 0, .string ⟨#[]⟩, .int .i64 0, .int .i64 0, .int .i64 0] 58) (c := .cells #[] 56) hg)
      clear hke hks he
      go_wp2_with (at_builtin; go_loud (refine wpList_append_own _ rfl _ _ 49 rfl (w.heap.size + 2) 56 i0 (.agg #[.string ByteArray.empty, .int .i64 0, .int .i64 0, .int .i64 0]) 4 40 Try.underlying49 HI0.out HZ0.out HZ1.out HZ2.out rfl (by decide) _ _ _ rfl HOE.out ⟨g, 0, none⟩ N cap (rflat S.ks) rfl (by rw [rflat_length, HN.out]) HCN.out rflat_one (by unfold maxLen; omega) (by omega) (by simp) ?_); intro v1 w1 hown1 hgrow1 hnil1; rw [Nat.zero_add, List.nil_append] at hown1; (obtain ⟨x1, cap1, rfl⟩ := owns_slice hown1); (obtain ⟨g1, rfl, z0, z1, z2, z3, z4⟩ := rrow_cells hown1 HN.out.symm (by omega)); (obtain ⟨y0, y1, y2⟩ := HBX.out w1 hgrow1); (obtain ⟨⟨d0, d1, d2, d3, d4, d5, d6⟩, df, dl⟩ := RBox.get y0); have df2 := df 2; have HO1 := Lib.hid hown1; have HY0 := Lib.hid y0; have HY1 := Lib.hid y1; have HY2 := Lib.hid y2; clear hown1 hgrow1 hnil1 y0 y1 y2 df z4 d0 d1 d3 d4 d5 d6)
      have hrb : RBox (w1.setCell ⟨w.heap.size, 2, none⟩ (.slice (some ⟨g1, 0, none⟩) N cap1)) w.heap.size (.int .i64 S.bound) (.int .i64 S.over) (.slice (some ⟨g1, 0, none⟩) N cap1) (.string ByteArray.empty) (.int .i64 S.c) (.int .i64 S.a) (.int .i64 S.t) := RBox.set2 HY0.out _
      have hrz : RBox (w1.setCell ⟨w.heap.size, 2, none⟩ (.slice (some ⟨g1, 0, none⟩) N cap1)) (w.heap.size + 1) (.int .i64 0) (.int .i64 0) (.slice none 0 0) (.string ⟨#[]⟩) (.int .i64 0) (.int .i64 0) (.int .i64 0) := (set_other (by omega)).trans HY1.out
      have hbw : Below w.heap.size w (w1.setCell ⟨w.heap.size, 2, none⟩ (.slice (some ⟨g1, 0, none⟩) N cap1)) := HY2.out.setCell (by simp) _
      have hrw : (w1.setCell ⟨w.heap.size, 2, none⟩ (.slice (some ⟨g1, 0, none⟩) N cap1)).ownsRow (w.heap.size + 2) 56 4 (.slice (some ⟨g1, 0, none⟩) N cap1) N (rflat S.ks) := row_kept HO1.out (fun j hj => set_other (by have : g1 = j := (by simpa [Value.ownBlock] using hj); omega))
      generalize w1.setCell ⟨w.heap.size, 2, none⟩ (.slice (some ⟨g1, 0, none⟩) N cap1) = W at *
      obtain ⟨x0, hx0, _, hg1W, _, _, hce⟩ := rrow_cells hrw HN.out.symm (by omega)
      obtain rfl : g1 = x0 := by simpa using hx0
      obtain ⟨v0, v1, v2, v3⟩ := hce k hlt
      have hfr := row_free hrw
      obtain ⟨⟨_, _, l2, _, _, _, _⟩, _, ldl⟩ := RBox.get hrb
      have hi0 : (0 : Int) ≤ (k : Int) := by omega
      have hi1 : (k : Int) < (N : Int) := by omega
      have HRB := Lib.hid hrb
      have HRZ := Lib.hid hrz
      have HBW := Lib.hid hbw
      have HRW := Lib.hid hrw
      have HFR := Lib.hid hfr
      have hko := HOK.out.each k (by rw [HN.out]; exact hlt)
      obtain ⟨k1, k2, k3, k4, k5, k6, _⟩ := hko
      have HMR := Lib.hid (fun W => rmore_any (kn S.ks k) n W k1 (by omega) k3 k4 b3 b4)
      have HMS := Lib.hid (fun W => rmore_any ⟨ByteArray.empty, S.c, S.a, S.t⟩ n W HOK.out.c0 (by have := HOK.out.c1; show S.c ≤ 1000; omega) HOK.out.a0 HOK.out.a1 b3 b4)
      have o0 := HOK.out.o0
      have o1 := HOK.out.o1
      clear hrb hrz hbw hrw hce hx0 hfr k1 k2 k3 k4 k5 k6 d2 df2 dl
      go_region_with (go_at_call 30; refine (HMR.out _).mono ?_; rintro e w2 ⟨rfl, hB2⟩; (obtain ⟨hc2, hf2⟩ := bcell hB2); have m0 := (hc2 g1 (k * 4) hg1W).trans v0; have m1 := (hc2 g1 (k * 4 + 1) hg1W).trans v1; have m2 := (hc2 g1 (k * 4 + 2) hg1W).trans v2; have m3 := (hc2 g1 (k * 4 + 3) hg1W).trans v3; have ml := (hc2 w.heap.size 2 ldl).trans l2; have fz0 := (hf2 g1 (k * 4) hg1W).trans (HFR.out _); have fz1 := (hf2 g1 (k * 4 + 1) hg1W).trans (HFR.out _); have fz2 := (hf2 g1 (k * 4 + 2) hg1W).trans (HFR.out _); have fz3 := (hf2 g1 (k * 4 + 3) hg1W).trans (HFR.out _); have HB2 := Lib.hid hB2; clear hB2 hc2 hf2)
      all_goals
        obtain ⟨p1, p2, p3, p4⟩ := after11 (k := k) ⟨(kn S.ks k).s, (kn S.ks k).c + 1, min 1152921504606846976 ((kn S.ks k).a + n), max (kn S.ks k).t n⟩ HB2.out HRB.out HRZ.out HRW.out HBW.out.drew
        clear m0 m1 m2 m3 ml fz0 fz1 fz2 fz3
        dsimp only [W11] at p1 p2 p3 p4
        generalize (((w2.setCell ⟨g1, k * 4, none⟩ (.string (kn S.ks k).s)).setCell ⟨g1, k * 4 + 1, none⟩ (.int .i64 ((kn S.ks k).c + 1))).setCell ⟨g1, k * 4 + 2, none⟩ (.int .i64 (min 1152921504606846976 ((kn S.ks k).a + n)))).setCell ⟨g1, k * 4 + 3, none⟩ (.int .i64 (max (kn S.ks k).t n)) = W5 at *
        obtain ⟨⟨_, _, _, c3, c4, c5, c6⟩, _, cl⟩ := RBox.get p1
        have P1 := Lib.hid p1
        have P2 := Lib.hid p2
        have P3 := Lib.hid p3
        have P4 := Lib.hid p4
        clear p1 p2 p3 p4 HB2 HRB HRZ HRW HBW HFR
        by_cases q : S.bound < n
        · have HQ := Lib.hid q
          go_wp2_with (go_at_call 30; refine (HMS.out _).mono ?_; rintro e w4 ⟨rfl, hB4⟩; have T1 := P1.out.keep hB4; have T2 := P2.out.keep hB4; (obtain ⟨⟨e0, e1, e2, e3, e4, e5, e6⟩, ef, el⟩ := RBox.get T1); (obtain ⟨⟨r0', r1, r2, r3, r4, r5, r6⟩, rf, rl⟩ := RBox.get T2); have ef0 := ef 0; have ef1 := ef 1; have ef3 := ef 3; have ef4 := ef 4; have ef5 := ef 5; have ef6 := ef 6; have rf0 := rf 0; have rf1 := rf 1; have rf2 := rf 2; have rf3 := rf 3; have rf4 := rf 4; have rf5 := rf 5; have rf6 := rf 6; have HB4 := Lib.hid hB4; have T1' := Lib.hid T1; have T2' := Lib.hid T2; clear hB4 T1 T2 ef rf c3 c4 c5 c6)
          have hE : noteE S s n = 0 := HE.out
          have hS : noteS S s n = ⟨S.bound, S.over + 1, S.c + 1, min 1152921504606846976 (S.a + n), max S.t n, S.ks.set k (more (kn S.ks k) n)⟩ := by
            unfold noteS noteK
            rw [if_pos hE, if_pos HQ.out, ← HK.out, if_pos (by rw [HN.out]; exact hlt)]
          have hbut := (show But [w.heap.size, w.heap.size + 1] w4 ((((((((((((w4.setCell ⟨w.heap.size, 3, none⟩ (.string ByteArray.empty)).setCell ⟨w.heap.size, 4, none⟩ (.int .i64 (S.c + 1))).setCell ⟨w.heap.size, 5, none⟩ (.int .i64 (min 1152921504606846976 (S.a + n)))).setCell ⟨w.heap.size, 6, none⟩ (.int .i64 (max S.t n))).setCell ⟨w.heap.size, 1, none⟩ (.int .i64 (S.over + 1))).setCell ⟨w.heap.size + 1, 0, none⟩ (.int .i64 S.bound)).setCell ⟨w.heap.size + 1, 1, none⟩ (.int .i64 (S.over + 1))).setCell ⟨w.heap.size + 1, 2, none⟩ (.slice (some ⟨g1, 0, none⟩) N cap1)).setCell ⟨w.heap.size + 1, 3, none⟩ (.string ByteArray.empty)).setCell ⟨w.heap.size + 1, 4, none⟩ (.int .i64 (S.c + 1))).setCell ⟨w.heap.size + 1, 5, none⟩ (.int .i64 (min 1152921504606846976 (S.a + n)))).setCell ⟨w.heap.size + 1, 6, none⟩ (.int .i64 (max S.t n))) from (((((((((((((But.refl _ _).set _ _ (by simp)).set _ _ (by simp)).set _ _ (by simp)).set _ _ (by simp)).set _ _ (by simp)).set _ _ (by simp)).set _ _ (by simp)).set _ _ (by simp)).set _ _ (by simp)).set _ _ (by simp)).set _ _ (by simp)).set _ _ (by simp)))
          have hbox : RBox ((((((((((((w4.setCell ⟨w.heap.size, 3, none⟩ (.string ByteArray.empty)).setCell ⟨w.heap.size, 4, none⟩ (.int .i64 (S.c + 1))).setCell ⟨w.heap.size, 5, none⟩ (.int .i64 (min 1152921504606846976 (S.a + n)))).setCell ⟨w.heap.size, 6, none⟩ (.int .i64 (max S.t n))).setCell ⟨w.heap.size, 1, none⟩ (.int .i64 (S.over + 1))).setCell ⟨w.heap.size + 1, 0, none⟩ (.int .i64 S.bound)).setCell ⟨w.heap.size + 1, 1, none⟩ (.int .i64 (S.over + 1))).setCell ⟨w.heap.size + 1, 2, none⟩ (.slice (some ⟨g1, 0, none⟩) N cap1)).setCell ⟨w.heap.size + 1, 3, none⟩ (.string ByteArray.empty)).setCell ⟨w.heap.size + 1, 4, none⟩ (.int .i64 (S.c + 1))).setCell ⟨w.heap.size + 1, 5, none⟩ (.int .i64 (min 1152921504606846976 (S.a + n)))).setCell ⟨w.heap.size + 1, 6, none⟩ (.int .i64 (max S.t n))) (w.heap.size + 1) (.int .i64 S.bound) (.int .i64 (S.over + 1)) (.slice (some ⟨g1, 0, none⟩) N cap1) (.string ByteArray.empty) (.int .i64 (S.c + 1)) (.int .i64 (min 1152921504606846976 (S.a + n))) (.int .i64 (max S.t n)) := (RBox.upd (RBox.upd (RBox.upd (RBox.upd (RBox.upd (RBox.upd (RBox.upd (((((T2'.out.skip (by omega)).skip (by omega)).skip (by omega)).skip (by omega)).skip (by omega)) 0 _ rfl) 1 _ rfl) 2 _ rfl) 3 _ rfl) 4 _ rfl) 5 _ rfl) 6 _ rfl)
          have FIN := fun e he => rfin (e := e) hn0 P3.out P4.out HB4.out hbut hE hS rfl (by rw [List.length_set]; exact HN.out) he
          clear hbut
          generalize (((((((((((w4.setCell ⟨w.heap.size, 3, none⟩ (.string ByteArray.empty)).setCell ⟨w.heap.size, 4, none⟩ (.int .i64 (S.c + 1))).setCell ⟨w.heap.size, 5, none⟩ (.int .i64 (min 1152921504606846976 (S.a + n)))).setCell ⟨w.heap.size, 6, none⟩ (.int .i64 (max S.t n))).setCell ⟨w.heap.size, 1, none⟩ (.int .i64 (S.over + 1))).setCell ⟨w.heap.size + 1, 0, none⟩ (.int .i64 S.bound)).setCell ⟨w.heap.size + 1, 1, none⟩ (.int .i64 (S.over + 1))).setCell ⟨w.heap.size + 1, 2, none⟩ (.slice (some ⟨g1, 0, none⟩) N cap1)).setCell ⟨w.heap.size + 1, 3, none⟩ (.string ByteArray.empty)).setCell ⟨w.heap.size + 1, 4, none⟩ (.int .i64 (S.c + 1))).setCell ⟨w.heap.size + 1, 5, none⟩ (.int .i64 (min 1152921504606846976 (S.a + n)))).setCell ⟨w.heap.size + 1, 6, none⟩ (.int .i64 (max S.t n)) = Wf at *
          obtain ⟨⟨y0, y1, y2, y3, y4, y5, y6⟩, _, _⟩ := RBox.get hbox
          exact bodyPost_ret (by simp [results, Try.results22, go_sem, y0, y1, y2, y3, y4, y5, y6]; rfl) rfl (FIN _ rfl)
        · have HQ := Lib.hid q
          go_wp2_with (go_at_call 30; refine (HMS.out _).mono ?_; rintro e w4 ⟨rfl, hB4⟩; have T1 := P1.out.keep hB4; have T2 := P2.out.keep hB4; (obtain ⟨⟨e0, e1, e2, e3, e4, e5, e6⟩, ef, el⟩ := RBox.get T1); (obtain ⟨⟨r0', r1, r2, r3, r4, r5, r6⟩, rf, rl⟩ := RBox.get T2); have ef0 := ef 0; have ef1 := ef 1; have ef3 := ef 3; have ef4 := ef 4; have ef5 := ef 5; have ef6 := ef 6; have rf0 := rf 0; have rf1 := rf 1; have rf2 := rf 2; have rf3 := rf 3; have rf4 := rf 4; have rf5 := rf 5; have rf6 := rf 6; have HB4 := Lib.hid hB4; have T1' := Lib.hid T1; have T2' := Lib.hid T2; clear hB4 T1 T2 ef rf c3 c4 c5 c6)
          have hE : noteE S s n = 0 := HE.out
          have hS : noteS S s n = ⟨S.bound, S.over, S.c + 1, min 1152921504606846976 (S.a + n), max S.t n, S.ks.set k (more (kn S.ks k) n)⟩ := by
            unfold noteS noteK
            rw [if_pos hE, if_neg (by have := HQ.out; omega), ← HK.out, if_pos (by rw [HN.out]; exact hlt)]
          have hbut := (show But [w.heap.size, w.heap.size + 1] w4 (((((((((((w4.setCell ⟨w.heap.size, 3, none⟩ (.string ByteArray.empty)).setCell ⟨w.heap.size, 4, none⟩ (.int .i64 (S.c + 1))).setCell ⟨w.heap.size, 5, none⟩ (.int .i64 (min 1152921504606846976 (S.a + n)))).setCell ⟨w.heap.size, 6, none⟩ (.int .i64 (max S.t n))).setCell ⟨w.heap.size + 1, 0, none⟩ (.int .i64 S.bound)).setCell ⟨w.heap.size + 1, 1, none⟩ (.int .i64 (S.over))).setCell ⟨w.heap.size + 1, 2, none⟩ (.slice (some ⟨g1, 0, none⟩) N cap1)).setCell ⟨w.heap.size + 1, 3, none⟩ (.string ByteArray.empty)).setCell ⟨w.heap.size + 1, 4, none⟩ (.int .i64 (S.c + 1))).setCell ⟨w.heap.size + 1, 5, none⟩ (.int .i64 (min 1152921504606846976 (S.a + n)))).setCell ⟨w.heap.size + 1, 6, none⟩ (.int .i64 (max S.t n))) from ((((((((((((But.refl _ _).set _ _ (by simp)).set _ _ (by simp)).set _ _ (by simp)).set _ _ (by simp)).set _ _ (by simp)).set _ _ (by simp)).set _ _ (by simp)).set _ _ (by simp)).set _ _ (by simp)).set _ _ (by simp)).set _ _ (by simp)))
          have hbox : RBox (((((((((((w4.setCell ⟨w.heap.size, 3, none⟩ (.string ByteArray.empty)).setCell ⟨w.heap.size, 4, none⟩ (.int .i64 (S.c + 1))).setCell ⟨w.heap.size, 5, none⟩ (.int .i64 (min 1152921504606846976 (S.a + n)))).setCell ⟨w.heap.size, 6, none⟩ (.int .i64 (max S.t n))).setCell ⟨w.heap.size + 1, 0, none⟩ (.int .i64 S.bound)).setCell ⟨w.heap.size + 1, 1, none⟩ (.int .i64 (S.over))).setCell ⟨w.heap.size + 1, 2, none⟩ (.slice (some ⟨g1, 0, none⟩) N cap1)).setCell ⟨w.heap.size + 1, 3, none⟩ (.string ByteArray.empty)).setCell ⟨w.heap.size + 1, 4, none⟩ (.int .i64 (S.c + 1))).setCell ⟨w.heap.size + 1, 5, none⟩ (.int .i64 (min 1152921504606846976 (S.a + n)))).setCell ⟨w.heap.size + 1, 6, none⟩ (.int .i64 (max S.t n))) (w.heap.size + 1) (.int .i64 S.bound) (.int .i64 (S.over)) (.slice (some ⟨g1, 0, none⟩) N cap1) (.string ByteArray.empty) (.int .i64 (S.c + 1)) (.int .i64 (min 1152921504606846976 (S.a + n))) (.int .i64 (max S.t n)) := (RBox.upd (RBox.upd (RBox.upd (RBox.upd (RBox.upd (RBox.upd (RBox.upd ((((T2'.out.skip (by omega)).skip (by omega)).skip (by omega)).skip (by omega)) 0 _ rfl) 1 _ rfl) 2 _ rfl) 3 _ rfl) 4 _ rfl) 5 _ rfl) 6 _ rfl)
          have FIN := fun e he => rfin (e := e) hn0 P3.out P4.out HB4.out hbut hE hS rfl (by rw [List.length_set]; exact HN.out) he
          clear hbut
          generalize ((((((((((w4.setCell ⟨w.heap.size, 3, none⟩ (.string ByteArray.empty)).setCell ⟨w.heap.size, 4, none⟩ (.int .i64 (S.c + 1))).setCell ⟨w.heap.size, 5, none⟩ (.int .i64 (min 1152921504606846976 (S.a + n)))).setCell ⟨w.heap.size, 6, none⟩ (.int .i64 (max S.t n))).setCell ⟨w.heap.size + 1, 0, none⟩ (.int .i64 S.bound)).setCell ⟨w.heap.size + 1, 1, none⟩ (.int .i64 (S.over))).setCell ⟨w.heap.size + 1, 2, none⟩ (.slice (some ⟨g1, 0, none⟩) N cap1)).setCell ⟨w.heap.size + 1, 3, none⟩ (.string ByteArray.empty)).setCell ⟨w.heap.size + 1, 4, none⟩ (.int .i64 (S.c + 1))).setCell ⟨w.heap.size + 1, 5, none⟩ (.int .i64 (min 1152921504606846976 (S.a + n)))).setCell ⟨w.heap.size + 1, 6, none⟩ (.int .i64 (max S.t n)) = Wf at *
          obtain ⟨⟨y0, y1, y2, y3, y4, y5, y6⟩, _, _⟩ := RBox.get hbox
          exact bodyPost_ret (by simp [results, Try.results22, go_sem, y0, y1, y2, y3, y4, y5, y6]; rfl) rfl (FIN _ rfl)
end Go.Proofs.Ytcbdmaffcjdnbaa
