/- Runs: the reference's Note of a kind that is new. -/
import Derived.Test.YtcbdmaffcjdnbaaS13
namespace Go.Proofs.Ytcbdmaffcjdnbaa
open Go.RowKit Go.Shelf Go.Maps Go.ChangeMaps
theorem rrow_some {w : World} {n0 g : Nat} {n cap : Nat} {ks : List Kd} (h : w.ownsRow n0 56 4 (.slice (some ⟨g, 0, none⟩) n cap) n (rflat ks)) (hn : n = ks.length) : n0 ≤ g ∧ g < w.heap.size ∧ ∀ i, i < n → w.cell? ⟨g, i * 4, none⟩ = some (.string (kn ks i).s) ∧ w.cell? ⟨g, i * 4 + 1, none⟩ = some (.int .i64 (kn ks i).c) ∧ w.cell? ⟨g, i * 4 + 2, none⟩ = some (.int .i64 (kn ks i).a) ∧ w.cell? ⟨g, i * 4 + 3, none⟩ = some (.int .i64 (kn ks i).t) := by
  obtain ⟨cur, hg, hb⟩ := row_block h (j := g) rfl
  refine ⟨hb, (Array.getElem?_eq_some_iff.1 hg).1, fun i hi => ?_⟩
  obtain ⟨x, hx, _, _, _, _, hc⟩ := rrow_cells h hn (by omega)
  obtain rfl : g = x := by simpa using hx
  exact hc i hi
theorem rflat_snoc (ks : List Kd) (k : Kd) : rflat (ks ++ [k]) = rflat ks ++ rcell k := by simp [rflat]
theorem new_cells (W : World) (s : ByteArray) (z : Nat) (hz : z = W.heap.size) : ∀ j u, (rcell ⟨s, 0, 0, 0⟩)[j]? = some u → (W.alloc (.cells #[.string s, .int .i64 0, .int .i64 0, .int .i64 0] 56)).cell? ((⟨z, 0, none⟩ : Addr).add j) = some u := fun j u hu => by
  subst hz
  exact World.news_of_block (cs := #[.string s, .int .i64 0, .int .i64 0, .int .i64 0]) (t := 56) (fr := (0, 0)) (heap_alloc_new W _) j u hu
/-- Behind the first store of the row. -/
theorem mid_store {w w1 : World} {N : Nat} {S : TS} {lv v1 : Value} (h0 : w1.heap[w.heap.size]? = some (.cells #[.int .i64 S.bound, .int .i64 S.over, lv, .string ByteArray.empty, .int .i64 S.c, .int .i64 S.a, .int .i64 S.t] 58)) (h1 : w1.heap[w.heap.size + 1]? = some (.cells #[.int .i64 0, .int .i64 0, .slice none 0 0, .string ⟨#[]⟩, .int .i64 0, .int .i64 0, .int .i64 0] 58)) (hB : Below w.heap.size w w1)
    (ho : w1.ownsRow (w.heap.size + 2) 56 4 v1 N (rflat S.ks)) : RBoxS (w1.setCell ⟨w.heap.size, 2, none⟩ v1) w.heap.size S v1 ∧ RBoxZ (w1.setCell ⟨w.heap.size, 2, none⟩ v1) (w.heap.size + 1) ∧ (w1.setCell ⟨w.heap.size, 2, none⟩ v1).ownsRow (w.heap.size + 2) 56 4 v1 N (rflat S.ks) ∧ Below w.heap.size w (w1.setCell ⟨w.heap.size, 2, none⟩ v1) :=
  ⟨RBox.set2 h0 _, (set_other (by omega)).trans h1, row_kept ho (fun j hj => set_other (by have := (ho.lt j hj).1; omega)), hB.setCell (by simp) _⟩
theorem mid_grown {w W w2 : World} {N : Nat} {S : TS} {v1 : Value} {o : Obj} (h : RBoxS W w.heap.size S v1 ∧ RBoxZ W (w.heap.size + 1) ∧ W.ownsRow (w.heap.size + 2) 56 4 v1 N (rflat S.ks) ∧ Below w.heap.size w W) (hg : (W.alloc o).grownBy w2 v1.ownBlock) :
    RBoxS w2 w.heap.size S v1 ∧ RBoxZ w2 (w.heap.size + 1) ∧ Below w.heap.size w w2 := by
  obtain ⟨h1, h2, h3, h4⟩ := h
  have hk : ∀ j, j < W.heap.size → j < w.heap.size + 2 → w2.heap[j]? = W.heap[j]? := fun j hj hj2 => by
    rw [hg.block j (by simp; omega) (fun e => by have := (h3.lt j e.symm).1; omega), Below.heap_alloc _ _ _ hj]
  refine ⟨(hk _ h1.get.2.2 (by omega)).trans h1, (hk _ h2.get.2.2 (by omega)).trans h2, (h4.alloc h4.size _).grown hg (by have := h4.size; simp; omega) (fun j e => by have := (h3.lt j e).1; omega)⟩
theorem mid3 {w w2 : World} {N : Nat} {S : TS} {v1 lv : Value} {ks : List Kd} (h : RBoxS w2 w.heap.size S v1 ∧ RBoxZ w2 (w.heap.size + 1) ∧ Below w.heap.size w w2) (ho : w2.ownsRow (w.heap.size + 2) 56 4 lv N (rflat ks)) :
    RBoxS (w2.setCell ⟨w.heap.size, 2, none⟩ lv) w.heap.size S lv ∧ RBoxZ (w2.setCell ⟨w.heap.size, 2, none⟩ lv) (w.heap.size + 1) ∧ (w2.setCell ⟨w.heap.size, 2, none⟩ lv).ownsRow (w.heap.size + 2) 56 4 lv N (rflat ks) ∧ Below w.heap.size w (w2.setCell ⟨w.heap.size, 2, none⟩ lv) :=
  ⟨RBox.set2 h.1 _, (set_other (by omega)).trans h.2.1, row_kept ho (fun j hj => set_other (by have := (ho.lt j hj).1; omega)), h.2.2.setCell (by simp) _⟩
theorem new_set (ks : List Kd) (s : ByteArray) (n : Int) : (ks ++ [(⟨s, 0, 0, 0⟩ : Kd)]).set ks.length (⟨s, 1, min 1152921504606846976 n, max 0 n⟩ : Kd) = ks ++ [more ⟨s, 0, 0, 0⟩ n] := by
  simp [more]
set_option maxRecDepth 100000 in
set_option maxHeartbeats 8000000 in
theorem rnote_full_some (S : TS) (g : Nat) (cap : Nat) (w : World) (n0 m : Nat) (_ : n0 ≤ w.heap.size) (hok : TOk m S) (_ : m ≤ 100) (hr : w.ownsRow n0 56 4 (.slice (some ⟨g, 0, none⟩) S.ks.length cap) S.ks.length (rflat S.ks)) (s : ByteArray) (n : Int) (hb : badNote s n = false) (hp : ¬ plc S.ks s < S.ks.length) (hfull : 100 ≤ S.ks.length) : Calls Try.prog 22 #[rT S (.slice (some ⟨g, 0, none⟩) S.ks.length cap), .string s, .int .i64 n] w (RNoteEnd w n0 S s n) := by
  unfold rT
  obtain ⟨b1, b2, b3, b4⟩ := badNote_no hb
  have t1 := string_emp s false (decide_eq_false b1)
  have HOK := Lib.hid hok
  have HP := Lib.hid hp
  have HE := Lib.hid (show noteE S s n = 3 by have := plc_le S.ks s; unfold noteE; rw [hb]; simp only [Bool.false_eq_true, if_false]; rw [if_pos ⟨by omega, hfull⟩])
  obtain ⟨i0, hi0, hz0, hz1, hz2⟩ := info_parts56
  have HI0 := Lib.hid hi0
  have HZ0 := Lib.hid hz0
  have HZ1 := Lib.hid hz1
  have HZ2 := Lib.hid hz2
  clear hi0 hz0 hz1 hz2
  obtain ⟨hg0, hg1, hcs⟩ := rrow_some hr rfl
  obtain ⟨N, hN⟩ : ∃ N, S.ks.length = N := ⟨_, rfl⟩
  have HR := Lib.hid hr
  have hlen := hok.len
  have hple := plc_le S.ks s
  rw [hN] at HR hlen hcs hp hfull hple ⊢
  have HN := Lib.hid hN
  have hcs' : ∀ i, i < N → ∀ o v, w.cell? ⟨g, o, none⟩ = some v → (((w.alloc (.cells #[.int .i64 S.bound, .int .i64 S.over, .slice (some ⟨g, 0, none⟩) N cap, .string ByteArray.empty, .int .i64 S.c, .int .i64 S.a, .int .i64 S.t] 58)).alloc (.cells #[.int .i64 0, .int .i64 0, .slice none 0 0, .string ⟨#[]⟩, .int .i64 0, .int .i64 0, .int .i64 0] 58))).cell? ⟨g, o, none⟩ = some v := fun i _ o v hv => by
    rw [← hv]
    exact (((Below.refl w.heap.size w).alloc (Nat.le_refl _) _).alloc (by simp) _).cell hg1
  have HC := Lib.hid hcs
  have HC' := Lib.hid hcs'
  have HPL := Lib.hid (show plc S.ks s = N by omega)
  clear hN hb b1 hcs hcs' hr hok hp hple
  go_enter Try.func22, Try.ntmps22
  go_wp2
  go_loop [8] (fun i => ∃ k : Nat, k ≤ N ∧ i = .int .i64 (k : Int)) (fun i => N - (intOf i).toNat)
  case atStart => exact ⟨0, Nat.zero_le _, rfl⟩
  case round =>
    obtain ⟨k, hk, rfl⟩ := hrel
    by_cases hlt : k < N
    · obtain ⟨q0, q1, q2, q3⟩ := HC.out k hlt
      have r0 := HC'.out k hlt _ _ q0
      clear q0 q1 q2 q3
      have t2 : ((kn S.ks k).s.toList == s.toList) = false := by rw [beq_bytes]; exact decide_eq_false (plc_before _ _ _ (by rw [HPL.out]; exact hlt))
      have HK := Lib.hid hlt
      go_wp2
      go_round
      case rel => exact ⟨k + 1, by have := HK.out; omega, by go_num⟩
      case measure => simp [intOf]; omega
    · obtain rfl : N = k := (by omega)
      clear hlt hk
      go_wp2
      refine bodyPost_ret (v := .tuple #[.agg #[.int .i64 S.bound, .int .i64 S.over, .slice (some ⟨g, 0, none⟩) N cap, .string ByteArray.empty, .int .i64 S.c, .int .i64 S.a, .int .i64 S.t], .int .i64 3]) (by simp [results, Try.results22, go_sem]) rfl ?_
      exact rnote_same (by rw [HN.out]; exact HR.out) (((Below.refl _ _).alloc (Nat.le_refl _) _).alloc (by simp) _) (by rw [HE.out]; decide) (by rw [HE.out, HN.out]; rfl)
set_option maxRecDepth 100000 in
set_option maxHeartbeats 8000000 in
theorem rnote_new_some (S : TS) (g : Nat) (cap : Nat) (w : World) (n0 m : Nat) (hn0 : n0 ≤ w.heap.size) (hok : TOk m S) (hm : m ≤ 100) (hr : w.ownsRow n0 56 4 (.slice (some ⟨g, 0, none⟩) S.ks.length cap) S.ks.length (rflat S.ks)) (s : ByteArray) (n : Int) (hb : badNote s n = false) (hp : ¬ plc S.ks s < S.ks.length) (hfull : S.ks.length < 100) : Calls Try.prog 22 #[rT S (.slice (some ⟨g, 0, none⟩) S.ks.length cap), .string s, .int .i64 n] w (RNoteEnd w n0 S s n) := by
  unfold rT
  obtain ⟨b1, b2, b3, b4⟩ := badNote_no hb
  have t1 := string_emp s false (decide_eq_false b1)
  have HOK := Lib.hid hok
  have HP := Lib.hid hp
  have HE := Lib.hid (show noteE S s n = 0 by unfold noteE; rw [hb]; simp only [Bool.false_eq_true, if_false]; rw [if_neg (by omega)])
  obtain ⟨i0, hi0, hz0, hz1, hz2⟩ := info_parts56
  have HI0 := Lib.hid hi0
  have HZ0 := Lib.hid hz0
  have HZ1 := Lib.hid hz1
  have HZ2 := Lib.hid hz2
  clear hi0 hz0 hz1 hz2
  obtain ⟨hg0, hg1, hcs⟩ := rrow_some hr rfl
  obtain ⟨N, hN⟩ : ∃ N, S.ks.length = N := ⟨_, rfl⟩
  have HR := Lib.hid hr
  have hlen := hok.len
  have hple := plc_le S.ks s
  rw [hN] at HR hlen hcs hp hfull hple ⊢
  have HN := Lib.hid hN
  have hcs' : ∀ i, i < N → ∀ o v, w.cell? ⟨g, o, none⟩ = some v → (((w.alloc (.cells #[.int .i64 S.bound, .int .i64 S.over, .slice (some ⟨g, 0, none⟩) N cap, .string ByteArray.empty, .int .i64 S.c, .int .i64 S.a, .int .i64 S.t] 58)).alloc (.cells #[.int .i64 0, .int .i64 0, .slice none 0 0, .string ⟨#[]⟩, .int .i64 0, .int .i64 0, .int .i64 0] 58))).cell? ⟨g, o, none⟩ = some v := fun i _ o v hv => by
    rw [← hv]
    exact (((Below.refl w.heap.size w).alloc (Nat.le_refl _) _).alloc (by simp) _).cell hg1
  have HC := Lib.hid hcs
  have HC' := Lib.hid hcs'
  have HPL := Lib.hid (show plc S.ks s = N by omega)
  clear hN hb b1 hcs hcs' hr hok hp hple
  go_enter Try.func22, Try.ntmps22
  go_wp2
  go_loop [8] (fun i => ∃ k : Nat, k ≤ N ∧ i = .int .i64 (k : Int)) (fun i => N - (intOf i).toNat)
  case atStart => exact ⟨0, Nat.zero_le _, rfl⟩
  case round =>
    obtain ⟨k, hk, rfl⟩ := hrel
    by_cases hlt : k < N
    · obtain ⟨q0, q1, q2, q3⟩ := HC.out k hlt
      have r0 := HC'.out k hlt _ _ q0
      clear q0 q1 q2 q3
      have t2 : ((kn S.ks k).s.toList == s.toList) = false := by rw [beq_bytes]; exact decide_eq_false (plc_before _ _ _ (by rw [HPL.out]; exact hlt))
      have HK := Lib.hid hlt
      go_wp2
      go_round
      case rel => exact ⟨k + 1, by have := HK.out; omega, by go_num⟩
      case measure => simp [intOf]; omega
    · obtain rfl : N = k := (by omega)
      clear hlt hk
      have HCN := Lib.hid (show ∀ j u, (rflat S.ks)[j]? = some u → ((((w.alloc (.cells #[.int .i64 S.bound, .int .i64 S.over, .slice (some ⟨g, 0, none⟩) N cap, .string ByteArray.empty, .int .i64 S.c, .int .i64 S.a, .int .i64 S.t] 58)).alloc (.cells #[.int .i64 0, .int .i64 0, .slice none 0 0, .string ⟨#[]⟩, .int .i64 0, .int .i64 0, .int .i64 0] 58)).alloc (.cells #[] 56)).cell? ((⟨g, 0, none⟩ : Addr).add j) = some u) by
        intro j u hu
        have h1 := HR.out.cells (g := g) rfl j u hu
        rw [add_at] at h1 ⊢
        rw [← h1]
        exact ((((Below.refl w.heap.size w).alloc (Nat.le_refl _) _).alloc (by simp) _).alloc (by simp; omega) _).cell hg1)
      have HOE := Lib.hid (show (((w.alloc (.cells #[.int .i64 S.bound, .int .i64 S.over, .slice (some ⟨g, 0, none⟩) N cap, .string ByteArray.empty, .int .i64 S.c, .int .i64 S.a, .int .i64 S.t] 58)).alloc (.cells #[.int .i64 0, .int .i64 0, .slice none 0 0, .string ⟨#[]⟩, .int .i64 0, .int .i64 0, .int .i64 0] 58)).alloc (.cells #[] 56)).ownsRow (w.heap.size + 2) 56 4 (.slice (some ⟨w.heap.size + 1 + 1, 0, none⟩) 0 0) 0 [] by
        have := owns_empty ((w.alloc (.cells #[.int .i64 S.bound, .int .i64 S.over, .slice (some ⟨g, 0, none⟩) N cap, .string ByteArray.empty, .int .i64 S.c, .int .i64 S.a, .int .i64 S.t] 58)).alloc (.cells #[.int .i64 0, .int .i64 0, .slice none 0 0, .string ⟨#[]⟩, .int .i64 0, .int .i64 0, .int .i64 0] 58)) (w.heap.size + 2) (by simp)
        simpa using this)
      have HBX := Lib.hid (fun w1 (hg : (((w.alloc (.cells #[.int .i64 S.bound, .int .i64 S.over, .slice (some ⟨g, 0, none⟩) N cap, .string ByteArray.empty, .int .i64 S.c, .int .i64 S.a, .int .i64 S.t] 58)).alloc (.cells #[.int .i64 0, .int .i64 0, .slice none 0 0, .string ⟨#[]⟩, .int .i64 0, .int .i64 0, .int .i64 0] 58)).alloc (.cells #[] 56)).grownBy w1 (some (w.heap.size + 1 + 1))) => box_grown (w := w) (a := .cells #[.int .i64 S.bound, .int .i64 S.over, .slice (some ⟨g, 0, none⟩) N cap, .string ByteArray.empty, .int .i64 S.c, .int .i64 S.a, .int .i64 S.t] 58) (b := .cells #[.int .i64 0, .int .i64 0, .slice none 0 0, .string ⟨#[]⟩, .int .i64 0, .int .i64 0, .int .i64 0] 58) (c := .cells #[] 56) hg)
      have HMID := Lib.hid (fun (w1 : World) (v1 : Value) (hB : w1.heap[w.heap.size]? = some (.cells #[.int .i64 S.bound, .int .i64 S.over, .slice (some ⟨g, 0, none⟩) N cap, .string ByteArray.empty, .int .i64 S.c, .int .i64 S.a, .int .i64 S.t] 58) ∧ w1.heap[w.heap.size + 1]? = some (.cells #[.int .i64 0, .int .i64 0, .slice none 0 0, .string ⟨#[]⟩, .int .i64 0, .int .i64 0, .int .i64 0] 58) ∧ Below w.heap.size w w1) (ho : w1.ownsRow (w.heap.size + 2) 56 4 v1 N (rflat S.ks)) => mid_store (w := w) (N := N) hB.1 hB.2.1 hB.2.2 ho)
      go_wp2_with (first | (at_builtin; go_loud (refine wpList_append_own _ rfl _ _ 49 rfl (w.heap.size + 2) 56 i0 (.agg #[.string ByteArray.empty, .int .i64 0, .int .i64 0, .int .i64 0]) 4 40 Try.underlying49 HI0.out HZ0.out HZ1.out HZ2.out rfl (by decide) _ _ _ rfl HOE.out ⟨g, 0, none⟩ N cap (rflat S.ks) rfl (by rw [rflat_length, HN.out]) HCN.out rflat_one (by unfold maxLen; omega) (by omega) (by simp) ?_); intro v1 w1 hown1 hgrow1 hnil1; rw [Nat.zero_add, List.nil_append] at hown1; (obtain ⟨x1, cap1, rfl⟩ := owns_slice hown1); have hM1 := HMID.out w1 _ (HBX.out w1 hgrow1) hown1; (obtain ⟨⟨d0, d1, d2, d3, d4, d5, d6⟩, df, dl⟩ := RBox.get (HBX.out w1 hgrow1).1); have df2 := df 2; have HM1 := Lib.hid hM1; have HO1 := Lib.hid hown1; have HG1 := Lib.hid hgrow1; clear hown1 hgrow1 hnil1 df d0 d1 d3 d4 d5 d6 hM1) | (at_builtin; go_loud (refine wpList_append_own _ rfl _ _ 49 rfl (w.heap.size + 2) 56 i0 (.agg #[.string ByteArray.empty, .int .i64 0, .int .i64 0, .int .i64 0]) 4 40 Try.underlying49 HI0.out HZ0.out HZ1.out HZ2.out rfl (by decide) _ _ _ rfl (HM1.out.2.2.1.alloc _) ⟨w1.heap.size, 0, none⟩ 1 1 (rcell ⟨s, 0, 0, 0⟩) rfl rfl (new_cells (w1.setCell ⟨w.heap.size, 2, none⟩ (.slice x1 N cap1)) s _ (by simp)) (by intro u hu; simp [rcell] at hu; rcases hu with rfl | rfl | rfl <;> rfl) (by unfold maxLen; omega) (by omega) (by have := HM1.out.2.2.2.size; have := HM1.out.2.1.get.2.2; simp at *; omega) ?_); intro v2 w2 hown2 hgrow2 hnil2; rw [← rflat_snoc] at hown2; (obtain ⟨x2, cap2, rfl⟩ := owns_slice hown2); have hM2 := mid_grown HM1.out hgrow2; (obtain ⟨⟨e0, e1, e2, e3, e4, e5, e6⟩, ef, el⟩ := RBox.get hM2.1); have ef2 := ef 2; have HM2 := Lib.hid hM2; have HO2 := Lib.hid hown2; clear hown2 hgrow2 hnil2 ef e0 e1 e3 e4 e5 e6 hM2))
      have hM3 := mid3 HM2.out HO2.out
      generalize w2.setCell ⟨w.heap.size, 2, none⟩ (.slice x2 (N + 1) cap2) = W at *
      obtain ⟨hrb, hrz, hrw, hbw⟩ := hM3
      obtain ⟨g2, rfl, _, hg2W, _, _, hce⟩ := rrow_cells hrw (by rw [List.length_append, HN.out]; rfl) (by omega)
      obtain ⟨v0, v1, v2, v3⟩ := hce N (by omega)
      rw [show kn (S.ks ++ [⟨s, 0, 0, 0⟩]) N = ⟨s, 0, 0, 0⟩ by rw [kn_snoc, HN.out, if_pos rfl]] at v0 v1 v2 v3
      dsimp only at v0 v1 v2 v3
      have hfr := row_free hrw
      obtain ⟨⟨_, _, l2, _, _, _, _⟩, _, ldl⟩ := RBox.get hrb
      have hi0 : (0 : Int) ≤ (N : Int) := by omega
      have hi1 : (N : Int) < (N : Int) + 1 := by omega
      have HRB := Lib.hid hrb
      have HRZ := Lib.hid hrz
      have HBW := Lib.hid hbw
      have HRW := Lib.hid hrw
      have HFR := Lib.hid hfr
      have HMR := Lib.hid (fun W => show Calls Try.prog 30 #[.agg #[.string s, .int .i64 0, .int .i64 0, .int .i64 0], .int .i64 n] W fun e w' => e = .returned (.agg #[.string s, .int .i64 1, .int .i64 (min 1152921504606846976 n), .int .i64 (max 0 n)]) ∧ Below W.heap.size W w' by simpa using rmore_any ⟨s, 0, 0, 0⟩ n W (by simp) (by simp) (by simp) (by simp) b3 b4)
      have HMS := Lib.hid (fun W => rmore_any ⟨ByteArray.empty, S.c, S.a, S.t⟩ n W HOK.out.c0 (by have := HOK.out.c1; show S.c ≤ 1000; omega) HOK.out.a0 HOK.out.a1 b3 b4)
      have o0 := HOK.out.o0
      have o1 := HOK.out.o1
      clear hrb hrz hbw hrw hce hfr HM2 HO2 HM1
      go_region_with (go_at_call 30; refine (HMR.out _).mono ?_; rintro e w2 ⟨rfl, hB2⟩; (obtain ⟨hc2, hf2⟩ := bcell hB2); have m0 := (hc2 g2 (N * 4) hg2W).trans v0; have m1 := (hc2 g2 (N * 4 + 1) hg2W).trans v1; have m2 := (hc2 g2 (N * 4 + 2) hg2W).trans v2; have m3 := (hc2 g2 (N * 4 + 3) hg2W).trans v3; have ml := (hc2 w.heap.size 2 ldl).trans l2; have fz0 := (hf2 g2 (N * 4) hg2W).trans (HFR.out _); have fz1 := (hf2 g2 (N * 4 + 1) hg2W).trans (HFR.out _); have fz2 := (hf2 g2 (N * 4 + 2) hg2W).trans (HFR.out _); have fz3 := (hf2 g2 (N * 4 + 3) hg2W).trans (HFR.out _); have HB2 := Lib.hid hB2; clear hB2 hc2 hf2)
      all_goals
        obtain ⟨p1, p2, p3, p4⟩ := after11 (k := N) ⟨s, 1, min 1152921504606846976 n, max 0 n⟩ HB2.out HRB.out HRZ.out HRW.out HBW.out.drew
        clear m0 m1 m2 m3 ml fz0 fz1 fz2 fz3
        dsimp only [W11] at p1 p2 p3 p4
        generalize (((w2.setCell ⟨g2, N * 4, none⟩ (.string s)).setCell ⟨g2, N * 4 + 1, none⟩ (.int .i64 1)).setCell ⟨g2, N * 4 + 2, none⟩ (.int .i64 (min 1152921504606846976 n))).setCell ⟨g2, N * 4 + 3, none⟩ (.int .i64 (max 0 n)) = W5 at *
        obtain ⟨⟨_, _, _, c3, c4, c5, c6⟩, _, cl⟩ := RBox.get p1
        have P1 := Lib.hid p1
        have P2 := Lib.hid p2
        have P3 := Lib.hid p3
        have P4 := Lib.hid p4
        clear p1 p2 p3 p4 HB2 HRB HRZ HRW HBW HFR
        by_cases q : S.bound < n
        · have HQ := Lib.hid q
          go_wp2_with (go_at_call 30; refine (HMS.out _).mono ?_; rintro e w4 ⟨rfl, hB4⟩; have T1 := P1.out.keep hB4; have T2 := P2.out.keep hB4; (obtain ⟨⟨e0, e1, e2, e3, e4, e5, e6⟩, ef, el⟩ := RBox.get T1); (obtain ⟨⟨r0', r1, r2, r3, r4, r5, r6⟩, rf, rl⟩ := RBox.get T2); have ef0 := ef 0; have ef1 := ef 1; have ef3 := ef 3; have ef4 := ef 4; have ef5 := ef 5; have ef6 := ef 6; have rf0 := rf 0; have rf1 := rf 1; have rf2 := rf 2; have rf3 := rf 3; have rf4 := rf 4; have rf5 := rf 5; have rf6 := rf 6; have HB4 := Lib.hid hB4; have T1' := Lib.hid T1; have T2' := Lib.hid T2; clear hB4 T1 T2 ef rf c3 c4 c5 c6)
          have hE : noteE S s n = 0 := HE.out
          have hS : noteS S s n = ⟨S.bound, S.over + 1, S.c + 1, min 1152921504606846976 (S.a + n), max S.t n, (S.ks ++ [(⟨s, 0, 0, 0⟩ : Kd)]).set N (⟨s, 1, min 1152921504606846976 n, max 0 n⟩ : Kd)⟩ := by
            unfold noteS noteK
            rw [if_pos hE, if_pos HQ.out, if_neg HP.out, ← HN.out, new_set]
          have hbut := (show But [w.heap.size, w.heap.size + 1] w4 ((((((((((((w4.setCell ⟨w.heap.size, 3, none⟩ (.string ByteArray.empty)).setCell ⟨w.heap.size, 4, none⟩ (.int .i64 (S.c + 1))).setCell ⟨w.heap.size, 5, none⟩ (.int .i64 (min 1152921504606846976 (S.a + n)))).setCell ⟨w.heap.size, 6, none⟩ (.int .i64 (max S.t n))).setCell ⟨w.heap.size, 1, none⟩ (.int .i64 (S.over + 1))).setCell ⟨w.heap.size + 1, 0, none⟩ (.int .i64 S.bound)).setCell ⟨w.heap.size + 1, 1, none⟩ (.int .i64 (S.over + 1))).setCell ⟨w.heap.size + 1, 2, none⟩ (.slice (some ⟨g2, 0, none⟩) (N + 1) cap2)).setCell ⟨w.heap.size + 1, 3, none⟩ (.string ByteArray.empty)).setCell ⟨w.heap.size + 1, 4, none⟩ (.int .i64 (S.c + 1))).setCell ⟨w.heap.size + 1, 5, none⟩ (.int .i64 (min 1152921504606846976 (S.a + n)))).setCell ⟨w.heap.size + 1, 6, none⟩ (.int .i64 (max S.t n))) from (((((((((((((But.refl _ _).set _ _ (by simp)).set _ _ (by simp)).set _ _ (by simp)).set _ _ (by simp)).set _ _ (by simp)).set _ _ (by simp)).set _ _ (by simp)).set _ _ (by simp)).set _ _ (by simp)).set _ _ (by simp)).set _ _ (by simp)).set _ _ (by simp)))
          have hbox : RBox ((((((((((((w4.setCell ⟨w.heap.size, 3, none⟩ (.string ByteArray.empty)).setCell ⟨w.heap.size, 4, none⟩ (.int .i64 (S.c + 1))).setCell ⟨w.heap.size, 5, none⟩ (.int .i64 (min 1152921504606846976 (S.a + n)))).setCell ⟨w.heap.size, 6, none⟩ (.int .i64 (max S.t n))).setCell ⟨w.heap.size, 1, none⟩ (.int .i64 (S.over + 1))).setCell ⟨w.heap.size + 1, 0, none⟩ (.int .i64 S.bound)).setCell ⟨w.heap.size + 1, 1, none⟩ (.int .i64 (S.over + 1))).setCell ⟨w.heap.size + 1, 2, none⟩ (.slice (some ⟨g2, 0, none⟩) (N + 1) cap2)).setCell ⟨w.heap.size + 1, 3, none⟩ (.string ByteArray.empty)).setCell ⟨w.heap.size + 1, 4, none⟩ (.int .i64 (S.c + 1))).setCell ⟨w.heap.size + 1, 5, none⟩ (.int .i64 (min 1152921504606846976 (S.a + n)))).setCell ⟨w.heap.size + 1, 6, none⟩ (.int .i64 (max S.t n))) (w.heap.size + 1) (.int .i64 S.bound) (.int .i64 (S.over + 1)) (.slice (some ⟨g2, 0, none⟩) (N + 1) cap2) (.string ByteArray.empty) (.int .i64 (S.c + 1)) (.int .i64 (min 1152921504606846976 (S.a + n))) (.int .i64 (max S.t n)) := (RBox.upd (RBox.upd (RBox.upd (RBox.upd (RBox.upd (RBox.upd (RBox.upd (((((T2'.out.skip (by omega)).skip (by omega)).skip (by omega)).skip (by omega)).skip (by omega)) 0 _ rfl) 1 _ rfl) 2 _ rfl) 3 _ rfl) 4 _ rfl) 5 _ rfl) 6 _ rfl)
          have FIN := fun e he => rfin (e := e) hn0 P3.out P4.out HB4.out hbut hE hS rfl (by rw [List.length_set, List.length_append, HN.out]; rfl) he
          clear hbut
          generalize (((((((((((w4.setCell ⟨w.heap.size, 3, none⟩ (.string ByteArray.empty)).setCell ⟨w.heap.size, 4, none⟩ (.int .i64 (S.c + 1))).setCell ⟨w.heap.size, 5, none⟩ (.int .i64 (min 1152921504606846976 (S.a + n)))).setCell ⟨w.heap.size, 6, none⟩ (.int .i64 (max S.t n))).setCell ⟨w.heap.size, 1, none⟩ (.int .i64 (S.over + 1))).setCell ⟨w.heap.size + 1, 0, none⟩ (.int .i64 S.bound)).setCell ⟨w.heap.size + 1, 1, none⟩ (.int .i64 (S.over + 1))).setCell ⟨w.heap.size + 1, 2, none⟩ (.slice (some ⟨g2, 0, none⟩) (N + 1) cap2)).setCell ⟨w.heap.size + 1, 3, none⟩ (.string ByteArray.empty)).setCell ⟨w.heap.size + 1, 4, none⟩ (.int .i64 (S.c + 1))).setCell ⟨w.heap.size + 1, 5, none⟩ (.int .i64 (min 1152921504606846976 (S.a + n)))).setCell ⟨w.heap.size + 1, 6, none⟩ (.int .i64 (max S.t n)) = Wf at *
          obtain ⟨⟨y0, y1, y2, y3, y4, y5, y6⟩, _, _⟩ := RBox.get hbox
          exact bodyPost_ret (by simp [results, Try.results22, go_sem, y0, y1, y2, y3, y4, y5, y6]; rfl) rfl (FIN _ rfl)
        · have HQ := Lib.hid q
          go_wp2_with (go_at_call 30; refine (HMS.out _).mono ?_; rintro e w4 ⟨rfl, hB4⟩; have T1 := P1.out.keep hB4; have T2 := P2.out.keep hB4; (obtain ⟨⟨e0, e1, e2, e3, e4, e5, e6⟩, ef, el⟩ := RBox.get T1); (obtain ⟨⟨r0', r1, r2, r3, r4, r5, r6⟩, rf, rl⟩ := RBox.get T2); have ef0 := ef 0; have ef1 := ef 1; have ef3 := ef 3; have ef4 := ef 4; have ef5 := ef 5; have ef6 := ef 6; have rf0 := rf 0; have rf1 := rf 1; have rf2 := rf 2; have rf3 := rf 3; have rf4 := rf 4; have rf5 := rf 5; have rf6 := rf 6; have HB4 := Lib.hid hB4; have T1' := Lib.hid T1; have T2' := Lib.hid T2; clear hB4 T1 T2 ef rf c3 c4 c5 c6)
          have hE : noteE S s n = 0 := HE.out
          have hS : noteS S s n = ⟨S.bound, S.over, S.c + 1, min 1152921504606846976 (S.a + n), max S.t n, (S.ks ++ [(⟨s, 0, 0, 0⟩ : Kd)]).set N (⟨s, 1, min 1152921504606846976 n, max 0 n⟩ : Kd)⟩ := by
            unfold noteS noteK
            rw [if_pos hE, if_neg (by have := HQ.out; omega), if_neg HP.out, ← HN.out, new_set]
          have hbut := (show But [w.heap.size, w.heap.size + 1] w4 (((((((((((w4.setCell ⟨w.heap.size, 3, none⟩ (.string ByteArray.empty)).setCell ⟨w.heap.size, 4, none⟩ (.int .i64 (S.c + 1))).setCell ⟨w.heap.size, 5, none⟩ (.int .i64 (min 1152921504606846976 (S.a + n)))).setCell ⟨w.heap.size, 6, none⟩ (.int .i64 (max S.t n))).setCell ⟨w.heap.size + 1, 0, none⟩ (.int .i64 S.bound)).setCell ⟨w.heap.size + 1, 1, none⟩ (.int .i64 (S.over))).setCell ⟨w.heap.size + 1, 2, none⟩ (.slice (some ⟨g2, 0, none⟩) (N + 1) cap2)).setCell ⟨w.heap.size + 1, 3, none⟩ (.string ByteArray.empty)).setCell ⟨w.heap.size + 1, 4, none⟩ (.int .i64 (S.c + 1))).setCell ⟨w.heap.size + 1, 5, none⟩ (.int .i64 (min 1152921504606846976 (S.a + n)))).setCell ⟨w.heap.size + 1, 6, none⟩ (.int .i64 (max S.t n))) from ((((((((((((But.refl _ _).set _ _ (by simp)).set _ _ (by simp)).set _ _ (by simp)).set _ _ (by simp)).set _ _ (by simp)).set _ _ (by simp)).set _ _ (by simp)).set _ _ (by simp)).set _ _ (by simp)).set _ _ (by simp)).set _ _ (by simp)))
          have hbox : RBox (((((((((((w4.setCell ⟨w.heap.size, 3, none⟩ (.string ByteArray.empty)).setCell ⟨w.heap.size, 4, none⟩ (.int .i64 (S.c + 1))).setCell ⟨w.heap.size, 5, none⟩ (.int .i64 (min 1152921504606846976 (S.a + n)))).setCell ⟨w.heap.size, 6, none⟩ (.int .i64 (max S.t n))).setCell ⟨w.heap.size + 1, 0, none⟩ (.int .i64 S.bound)).setCell ⟨w.heap.size + 1, 1, none⟩ (.int .i64 (S.over))).setCell ⟨w.heap.size + 1, 2, none⟩ (.slice (some ⟨g2, 0, none⟩) (N + 1) cap2)).setCell ⟨w.heap.size + 1, 3, none⟩ (.string ByteArray.empty)).setCell ⟨w.heap.size + 1, 4, none⟩ (.int .i64 (S.c + 1))).setCell ⟨w.heap.size + 1, 5, none⟩ (.int .i64 (min 1152921504606846976 (S.a + n)))).setCell ⟨w.heap.size + 1, 6, none⟩ (.int .i64 (max S.t n))) (w.heap.size + 1) (.int .i64 S.bound) (.int .i64 (S.over)) (.slice (some ⟨g2, 0, none⟩) (N + 1) cap2) (.string ByteArray.empty) (.int .i64 (S.c + 1)) (.int .i64 (min 1152921504606846976 (S.a + n))) (.int .i64 (max S.t n)) := (RBox.upd (RBox.upd (RBox.upd (RBox.upd (RBox.upd (RBox.upd (RBox.upd ((((T2'.out.skip (by omega)).skip (by omega)).skip (by omega)).skip (by omega)) 0 _ rfl) 1 _ rfl) 2 _ rfl) 3 _ rfl) 4 _ rfl) 5 _ rfl) 6 _ rfl)
          have FIN := fun e he => rfin (e := e) hn0 P3.out P4.out HB4.out hbut hE hS rfl (by rw [List.length_set, List.length_append, HN.out]; rfl) he
          clear hbut
          generalize ((((((((((w4.setCell ⟨w.heap.size, 3, none⟩ (.string ByteArray.empty)).setCell ⟨w.heap.size, 4, none⟩ (.int .i64 (S.c + 1))).setCell ⟨w.heap.size, 5, none⟩ (.int .i64 (min 1152921504606846976 (S.a + n)))).setCell ⟨w.heap.size, 6, none⟩ (.int .i64 (max S.t n))).setCell ⟨w.heap.size + 1, 0, none⟩ (.int .i64 S.bound)).setCell ⟨w.heap.size + 1, 1, none⟩ (.int .i64 (S.over))).setCell ⟨w.heap.size + 1, 2, none⟩ (.slice (some ⟨g2, 0, none⟩) (N + 1) cap2)).setCell ⟨w.heap.size + 1, 3, none⟩ (.string ByteArray.empty)).setCell ⟨w.heap.size + 1, 4, none⟩ (.int .i64 (S.c + 1))).setCell ⟨w.heap.size + 1, 5, none⟩ (.int .i64 (min 1152921504606846976 (S.a + n)))).setCell ⟨w.heap.size + 1, 6, none⟩ (.int .i64 (max S.t n)) = Wf at *
          obtain ⟨⟨y0, y1, y2, y3, y4, y5, y6⟩, _, _⟩ := RBox.get hbox
          exact bodyPost_ret (by simp [results, Try.results22, go_sem, y0, y1, y2, y3, y4, y5, y6]; rfl) rfl (FIN _ rfl)
end Go.Proofs.Ytcbdmaffcjdnbaa
