/- Walks: what the iterator yields: the walk. -/
import Derived.Test.YtepjdnokkgmhoaaD9
namespace Go.Proofs.Ytepjdnokkgmhoaa
open Go.RowKit Go.Shelf
attribute [local go_sem] Oper.semAt_some
attribute [local go_sem] run_store_float
def place2 (lo step : Nat) {N : Nat} (y : Fin N) : Value := .float .f64 (valB lo step y.1)
def idx {N : Nat} (y : Fin N) : Nat := y.1
theorem upto_vals {lo step k N : Nat} {xs : List (Fin N)} (h : xs.map (place lo step) = upto lo step k) : xs.map (place2 lo step) = vlist lo step k ∧ okN (xs.map idx) = true ∧ xs.length = k := by
  have h1 : xs.map (place2 lo step) = (xs.map (place lo step)).map (fun p => Value.float .f64 p.2) := by rw [List.map_map]; rfl
  have h2 : xs.map idx = (xs.map (place lo step)).map (fun p => p.1) := by rw [List.map_map]; rfl
  have h3 : xs.length = k := by have := congrArg List.length h; simpa [upto] using this
  rw [h] at h1 h2
  refine ⟨by rw [h1]; simp [upto, vlist], ?_, h3⟩
  have h4 : xs.map idx = List.range k := by rw [h2]; simp [upto, Function.comp_def]
  unfold okN
  rw [h4, List.length_range, beq_self_eq_true]
/-- How the walk ends. -/
def ToldEnd (lo step m : Nat) (w : World) (e : Ending) (w' : World) : Prop := ∃ x cap, e = .returned (.tuple #[.slice x m cap, .bool true]) ∧ SeesF w' x m (valB lo step) ∧ Below w.heap.size w w'
theorem sees_of_owns {w : World} {b : Nat} {x : Option Addr} {m cap lo step : Nat} (h : w.ownsRow b 22 1 (.slice x m cap) m (vlist lo step m)) : SeesF w x m (valB lo step) := fun hp => by
  obtain ⟨g, h1, _, _, h2⟩ := owns_cell h hp
  exact ⟨g, h1, h2⟩
theorem told_start (w : World) (most lo hi step : Nat) (hB : Below w.heap.size w ((((((w.alloc (.cells #[.int .i64 (most : Int)] 3)).alloc (.cells #[.float .f64 lo] 22)).alloc (.cells #[.float .f64 hi] 22)).alloc (.cells #[.float .f64 step] 22)).alloc (.cells #[.slice none 0 0] 38)).alloc (.cells #[.bool true] 4))) :
    ToldI w w.heap.size most [] true ((((((w.alloc (.cells #[.int .i64 (most : Int)] 3)).alloc (.cells #[.float .f64 lo] 22)).alloc (.cells #[.float .f64 hi] 22)).alloc (.cells #[.float .f64 step] 22)).alloc (.cells #[.slice none 0 0] 38)).alloc (.cells #[.bool true] 4)) := by
  have b0 := (((((Boxed.new w 3 (.int .i64 (most : Int))).alloc (.cells #[.float .f64 lo] 22)).alloc (.cells #[.float .f64 hi] 22)).alloc (.cells #[.float .f64 step] 22)).alloc (.cells #[.slice none 0 0] 38)).alloc (.cells #[.bool true] 4)
  have b4 := (Boxed.new ((((w.alloc (.cells #[.int .i64 (most : Int)] 3)).alloc (.cells #[.float .f64 lo] 22)).alloc (.cells #[.float .f64 hi] 22)).alloc (.cells #[.float .f64 step] 22)) 38 (.slice none 0 0)).alloc (.cells #[.bool true] 4)
  have b5 := Boxed.new (((((w.alloc (.cells #[.int .i64 (most : Int)] 3)).alloc (.cells #[.float .f64 lo] 22)).alloc (.cells #[.float .f64 hi] 22)).alloc (.cells #[.float .f64 step] 22)).alloc (.cells #[.slice none 0 0] 38)) 4 (.bool true)
  simp only [World.size_alloc] at b4 b5
  exact ⟨b0, ⟨.slice none 0 0, b4, World.ownsRow_nil _ _ _ _, trivial⟩, b5, hB, by simp⟩
theorem told_end {w W : World} {b D m cap lo step : Nat} {x : Option Addr} (h3 : W.ownsRow b 22 1 (.slice x m cap) m (vlist lo step m)) (h5 : Below w.heap.size w W) (hK : W.heap[D]? = some (.deferred (some []))) (hD : w.heap.size ≤ D) :
    SeesF (W.drew.putObj D (.deferred none)) x m (valB lo step) ∧ Below w.heap.size w (W.drew.putObj D (.deferred none)) := by
  have hK' : W.drew.heap[D]? = some (.deferred (some [])) := hK
  exact ⟨sees_of_owns (ownsRow_putObj h3.drew _ hK' rfl), h5.drew.trans (belowK_b (w := w) (Nat.le_refl _) _ D _ _ hD hK' rfl rfl)⟩
set_option maxRecDepth 100000 in
set_option maxHeartbeats 4000000 in
theorem ttold (lo hi step : Nat) (most : Nat) (w : World) (hmm : most ≤ 9223372036854775807) : Calls Try.prog 26 #[.float .f64 lo, .float .f64 hi, .float .f64 step, .int .i64 (most : Int)] w (ToldEnd lo step (min (stepsN lo hi step) most) w) := by
  have hfn := run_eql_func_nil
  obtain ⟨i0, hi0, hz0, hz1, hz2⟩ := info_parts22
  have HI := Lib.hid hi0
  have HZ0 := Lib.hid hz0
  have HZ1 := Lib.hid hz1
  have HZ2 := Lib.hid hz2
  have HM := Lib.hid hmm
  have HLE := Lib.hid (fun h => (@steps_fin lo hi step h).2.2.2)
  clear hi0 hz0 hz1 hz2 hmm
  refine (callsIn_wide (n := 6)).1 ?_
  refine callsIn_of_wp_marks Try.func26 rfl trivial ?_ rfl
  simp only [Try.ntmps26, List.size_toArray, List.length_cons, List.length_nil, Nat.reduceAdd, Nat.reduceSub, Array.replicate_succ, Array.replicate_zero, List.push_toArray, List.append_toArray, List.nil_append, List.cons_append]
  gi_wp2_with (first | (refine ⟨trivial, ?_⟩; gi_at_call 46; refine (callsIn_wide.2 (tall _ _ _ _)).mono ?_; rintro e w' ⟨rfl, rfl⟩))
  clear hfn
  have hsz : ((((((w.alloc (.cells #[.int .i64 (most : Int)] 3)).alloc (.cells #[.float .f64 lo] 22)).alloc (.cells #[.float .f64 hi] 22)).alloc (.cells #[.float .f64 step] 22)).alloc (.cells #[.slice none 0 0] 38)).alloc (.cells #[.bool true] 4)).heap.size = w.heap.size + 6 := by simp
  have hB6 : Below w.heap.size w ((((((w.alloc (.cells #[.int .i64 (most : Int)] 3)).alloc (.cells #[.float .f64 lo] 22)).alloc (.cells #[.float .f64 hi] 22)).alloc (.cells #[.float .f64 step] 22)).alloc (.cells #[.slice none 0 0] 38)).alloc (.cells #[.bool true] 4)) :=
    ((((((Below.refl _ w).alloc (Nat.le_refl _) _).alloc (by simp) _).alloc (by simp; omega) _).alloc (by simp; omega) _).alloc (by simp; omega) _).alloc (by simp; omega) _
  refine wpIn_rangeFunc_ownG rfl (by omega) (gf := 55) (lb := #[.pointer (some ⟨w.heap.size + 1, 0, none⟩), .pointer (some ⟨w.heap.size + 1 + 1, 0, none⟩), .pointer (some ⟨w.heap.size + 1 + 1 + 1, 0, none⟩)]) (by simp [go_sem]) trivial (enters_of Try.func55 (by kernel_rfl) rfl)
    (all_stops w.heap.size (w.heap.size + 1) lo hi step _ (by simp) ⟨by simp [go_sem], by simp [go_sem], by simp [go_sem]⟩) KeepB.trans (keepB_b (by omega) (by omega)) (Below.refl _ _) (fun _ => rfl)
    (fun pre W => pre.length ≤ most ∧ ToldI w w.heap.size most (pre.map (place2 lo step)) (okN (pre.map idx)) W)
    (fun c xs W => c = .exit 0 ∧ xs.length = most + 1 ∧ ToldI w w.heap.size most (xs.dropLast.map (place2 lo step)) (okN (xs.dropLast.map idx)) W)
    (OwnFrom.and (fun _ _ _ _ h _ _ => h) (told_own _ _ _ _ (Nat.le_refl _) (by omega) _ _))
    (fun c => OwnFrom.and (fun _ _ _ _ h _ _ => h) (OwnFrom.and (fun _ _ _ _ h _ _ => h) (told_own _ _ _ _ (Nat.le_refl _) (by omega) _ _)))
    ?start
    (fun y => { tmps := #[.float .f64 lo, .float .f64 hi, .float .f64 step, .int .i64 (most : Int), undef, undef, undef, .pointer (some ⟨w.heap.size, 0, none⟩), .slice none 0 0, .bool false, .func (.func 55) #[] #[.pointer (some ⟨w.heap.size + 1, 0, none⟩), .pointer (some ⟨w.heap.size + 1 + 1, 0, none⟩), .pointer (some ⟨w.heap.size + 1 + 1 + 1, 0, none⟩)],
      .pointer (some ⟨w.heap.size + 1 + 1 + 1 + 1, 0, none⟩), .pointer (some ⟨w.heap.size + 1 + 1 + 1 + 1 + 1, 0, none⟩), .int .i64 (y.1 : Nat), .float .f64 (valB lo step y.1), .float .f64 lo, .float .f64 hi, .float .f64 step, .func (.func 55) #[] #[.pointer (some ⟨w.heap.size + 1, 0, none⟩), .pointer (some ⟨w.heap.size + 1 + 1, 0, none⟩), .pointer (some ⟨w.heap.size + 1 + 1 + 1, 0, none⟩)],
      .func (.func 55) #[] #[.pointer (some ⟨w.heap.size + 1, 0, none⟩), .pointer (some ⟨w.heap.size + 1 + 1, 0, none⟩), .pointer (some ⟨w.heap.size + 1 + 1 + 1, 0, none⟩)], .bool false, .func (.func 55) #[] #[.pointer (some ⟨w.heap.size + 1, 0, none⟩), .pointer (some ⟨w.heap.size + 1 + 1, 0, none⟩), .pointer (some ⟨w.heap.size + 1 + 1 + 1, 0, none⟩)],
      .int .i64 (y.1 : Nat), .float .f64 (valB lo step y.1), undef, undef, undef, undef, undef, undef, undef, undef, undef, undef, undef, undef, undef, undef, undef, undef, undef], defers := [] }) ?assign ?body ?done ?stop
  case assign =>
    intro l x W K hK
    gi_wp2
    exact hK
  case start =>
    exact ⟨Nat.zero_le _, told_start _ _ _ _ _ hB6⟩
  case body =>
    rintro l pre y W ⟨hlen, hI⟩ hlt
    obtain ⟨h1, ⟨v, h2, h3, _⟩, h4, h5, h6⟩ := hI
    rw [List.length_map] at h3
    obtain ⟨x, cap, rfl⟩ := owns_slice h3
    have c1 := cell_of_one h1
    have c2 := cell_of_one h2
    have c4 := cell_of_one h4
    have f2 := free_of_one h2
    have f4 := free_of_one h4
    have hl2 := lt_of_block h2
    have hl4 := lt_of_block h4
    rw [show w.heap.size + 4 = w.heap.size + 1 + 1 + 1 + 1 from rfl] at c2 f2 hl2
    rw [show w.heap.size + 5 = w.heap.size + 1 + 1 + 1 + 1 + 1 from rfl] at c4 f4 hl4
    have H1 := Lib.hid h1
    have H2 := Lib.hid h2
    have H3 := Lib.hid h3
    have H4 := Lib.hid h4
    have H5 := Lib.hid h5
    have H6 := Lib.hid h6
    have HL := Lib.hid hlen
    have HLT := Lib.hid hlt
    by_cases hm : most ≤ pre.length
    · have g1 : decide (most ≤ pre.length) = true := by simpa using hm
      have HMM := Lib.hid hm
      clear h1 h2 h3 h4 h5 h6 hm hlen hlt
      gi_wp2
      have hJ : ToldI w w.heap.size most (pre.map (place2 lo step)) (okN (pre.map idx)) W := ⟨H1.out, ⟨_, H2.out, by rw [List.length_map]; exact H3.out, trivial⟩, H4.out, H5.out, H6.out⟩
      exact ⟨KeepsFrom.refl _ _, rfl, by have := HL.out; have := HMM.out; simp; omega, by rw [List.dropLast_concat]; exact hJ⟩
    · have g1 : decide (most ≤ pre.length) = false := by simpa using hm
      have HMM := Lib.hid hm
      obtain ⟨b, hb⟩ : ∃ b, okN (pre.map idx) = b := ⟨_, rfl⟩
      obtain ⟨b2, hb2⟩ : ∃ b2, (y.1 == pre.length) = b2 := ⟨_, rfl⟩
      rw [hb] at c4
      have hpb : okN ((pre ++ [y]).map idx) = (b && b2) := by
        rw [List.map_append, List.map_singleton, okN_snoc, hb, List.length_map, ← hb2]; rfl
      have HPB := Lib.hid hpb
      have g2 : ((y.1 : Int) == (pre.length : Int)) = b2 := by rw [← hb2, Bool.eq_iff_iff]; simp; omega
      have hN := HLE.out (by omega)
      have hsz2 : w.heap.size + 6 ≤ W.heap.size := h6
      have hcn : ∀ b' : Bool, ∀ (j : Nat) (u : Value), [Value.float .f64 (valB lo step y.1)][j]? = some u → ((W.setCell ⟨w.heap.size + 5, 0, none⟩ (.bool b')).alloc (.cells #[.float .f64 (valB lo step y.1)] 22)).cell? ((⟨W.heap.size, 0, none⟩ : Addr).add j) = some u := fun b' => by
        have := cell_one_new (W.setCell ⟨w.heap.size + 5, 0, none⟩ (.bool b')) (Value.float .f64 (valB lo step y.1)) 22
        simpa using this
      have hown0 : ∀ b' : Bool, ((W.setCell ⟨w.heap.size + 5, 0, none⟩ (.bool b')).alloc (.cells #[.float .f64 (valB lo step y.1)] 22)).ownsRow (w.heap.size + 6) 22 1 (.slice x pre.length cap) pre.length (pre.map (place2 lo step)) := fun b' => by
        refine World.ownsRow.alloc (h3.kept (grownBy_setCell' W (w.heap.size + 5) (.bool b')) ?_) _
        rcases h : (Value.slice x pre.length cap).ownBlock with _ | j
        · exact .inl rfl
        · exact .inr (by have := (h3.lt j h).1; simp; omega)
      have HCN := Lib.hid hcn
      have HOW := Lib.hid hown0
      have HTK := Lib.hid (fun (b' : Bool) (w1 : World) (v' : Value) (ho : w1.ownsRow (w.heap.size + 6) 22 1 v' (pre.length + 1) (pre.map (place2 lo step) ++ [Value.float .f64 (valB lo step y.1)])) hg => told_keep (most := most) (vs := pre.map (place2 lo step)) (ok := b) (ok' := b') (tmp := .cells #[.float .f64 (valB lo step y.1)] 22) (w1 := w1) (v' := v') (x := .float .f64 (valB lo step y.1)) h1 h2 (by rw [List.length_map]; exact h3) (by rw [← hb]; exact h4) h5 h6 (by rw [List.length_map]; exact ho) hg)
      have HNL := Lib.hid (show pre.length ≤ 10001 by omega)
      have hbs : w.heap.size + 6 ≤ ((W.setCell ⟨w.heap.size + 5, 0, none⟩ (.bool false)).alloc (.cells #[.float .f64 (valB lo step y.1)] 22)).heap.size := by simp; omega
      have HBS := Lib.hid hbs
      have HG2 := Lib.hid g2
      clear h1 h2 h3 h4 h5 h6 hm hlen hlt hpb hb hcn hown0 hN hsz2 hb2 hbs
      cases b
      · gi_wp2_with (first | (gi_at_builtin; go_loud (refine wpListIn_append_own _ rfl _ _ 38 rfl (w.heap.size + 6) 22 i0 (.float .f64 0) 1 8 Try.underlying38 HI.out HZ0.out HZ1.out HZ2.out rfl (by decide) _ _ _ rfl (HOW.out false) ⟨W.heap.size, 0, none⟩ 1 1 [.float .f64 (valB lo step y.1)] rfl rfl (HCN.out false) (by intro u hu; simp at hu; subst hu; rfl) (by have := HNL.out; unfold maxLen; omega) (by have := HNL.out; omega) HBS.out ?_); intro v1 w1 hown1 hgrow1 hnil1; obtain ⟨q1, q2, q3, q4⟩ := HTK.out false w1 v1 hown1 hgrow1; obtain ⟨gg, cp, rfl⟩ := ownsRow_succ hown1; have HQ2 := Lib.hid q2; have HQ3 := Lib.hid q3; have HQ4 := Lib.hid q4; have cc := cell_of_one q1; have ff := free_of_one q1; have ll := lt_of_block q1; clear q1 q2 q3 q4 hown1 hgrow1 hnil1))
        exact ⟨by rw [hsz]; exact HQ3.out, HQ4.out, by have := HMM.out; simp; omega, by rw [HPB.out, List.map_append]; exact HQ2.out⟩
      · gi_wp2_with (first | (gi_at_builtin; go_loud (refine wpListIn_append_own _ rfl _ _ 38 rfl (w.heap.size + 6) 22 i0 (.float .f64 0) 1 8 Try.underlying38 HI.out HZ0.out HZ1.out HZ2.out rfl (by decide) _ _ _ rfl (HOW.out b2) ⟨W.heap.size, 0, none⟩ 1 1 [.float .f64 (valB lo step y.1)] rfl rfl (HCN.out b2) (by intro u hu; simp at hu; subst hu; rfl) (by have := HNL.out; unfold maxLen; omega) (by have := HNL.out; omega) (by have := HBS.out; simpa using this) ?_); intro v1 w1 hown1 hgrow1 hnil1; obtain ⟨q1, q2, q3, q4⟩ := HTK.out b2 w1 v1 hown1 hgrow1; obtain ⟨gg, cp, rfl⟩ := ownsRow_succ hown1; have HQ2 := Lib.hid q2; have HQ3 := Lib.hid q3; have HQ4 := Lib.hid q4; have cc := cell_of_one q1; have ff := free_of_one q1; have ll := lt_of_block q1; clear q1 q2 q3 q4 hown1 hgrow1 hnil1))
        exact ⟨by rw [hsz]; exact HQ3.out, HQ4.out, by have := HMM.out; simp; omega, by rw [HPB.out, List.map_append]; exact HQ2.out⟩
  case done =>
    rintro D xs W hD hS ⟨hlen, hI⟩ hK
    obtain ⟨u1, u2, u3⟩ := upto_vals hS
    rw [u1, u2] at hI
    obtain ⟨h1, ⟨v, h2, h3, _⟩, h4, h5, h6⟩ := hI
    have hvl : (vlist lo step (stepsN lo hi step)).length = stepsN lo hi step := by simp [vlist]
    rw [hvl] at h3
    obtain ⟨x, cap, rfl⟩ := owns_slice h3
    rw [u3] at hlen
    have c2 := cell_of_one h2
    have c4 := cell_of_one h4
    rw [show w.heap.size + 4 = w.heap.size + 1 + 1 + 1 + 1 from rfl] at c2
    rw [show w.heap.size + 5 = w.heap.size + 1 + 1 + 1 + 1 + 1 from rfl] at c4
    have HMN := Lib.hid (Nat.min_eq_left (by omega : stepsN lo hi step ≤ most))
    have HH3 := Lib.hid h3
    have H5 := Lib.hid h5
    have HK := Lib.hid hK
    have HD := Lib.hid (show w.heap.size ≤ D by simp at hD; omega)
    clear h1 h2 h3 h4 h5 h6 hvl u1 u2 u3 hlen hK hS hD
    gi_wp2
    gi_region
    gi_wp2
    obtain ⟨z1, z2⟩ := told_end HH3.out H5.out HK.out HD.out
    refine ⟨by simp, .inl ⟨_, _, rfl, run_takeDeferred HK.out, ?_⟩⟩
    exact ⟨_, results_tmp2 rfl _ _ _, ⟨x, cap, by rw [HMN.out]; rfl, by rw [HMN.out]; exact z1, z2⟩⟩
  case stop =>
    rintro D c pre W hD ⟨k, hk1, hk2, hk3⟩ ⟨rfl, hlen, hI⟩ hK
    obtain ⟨u1, u2, u3⟩ := upto_vals hk3
    have hk : k = most + 1 := by omega
    subst hk
    have hmn : min (stepsN lo hi step) most = most := by omega
    have hd1 : pre.dropLast.map (place2 lo step) = vlist lo step most := by
      rw [List.map_dropLast, u1, vlist_succ, List.dropLast_concat]
    have hd2 : okN (pre.dropLast.map idx) = true := by
      have h : pre.dropLast.map (place lo step) = upto lo step most := by rw [List.map_dropLast, hk3, upto_succ, List.dropLast_concat]
      exact (upto_vals h).2.1
    rw [hd1, hd2] at hI
    obtain ⟨h1, ⟨v, h2, h3, _⟩, h4, h5, h6⟩ := hI
    have hvl : (vlist lo step most).length = most := by simp [vlist]
    rw [hvl] at h3
    obtain ⟨x, cap, rfl⟩ := owns_slice h3
    have c2 := cell_of_one h2
    have c4 := cell_of_one h4
    rw [show w.heap.size + 4 = w.heap.size + 1 + 1 + 1 + 1 from rfl] at c2
    rw [show w.heap.size + 5 = w.heap.size + 1 + 1 + 1 + 1 + 1 from rfl] at c4
    have HMN := Lib.hid hmn
    have HD := Lib.hid (show w.heap.size ≤ D by simp at hD; omega)
    have HH3 := Lib.hid h3
    have H5 := Lib.hid h5
    have HK := Lib.hid hK
    clear h1 h2 h3 h4 h5 h6 hvl hd1 hd2 hmn hk1 hk2 hk3 u1 u2 u3 hlen hK
    gi_wp2
    gi_region
    gi_wp2
    obtain ⟨z1, z2⟩ := told_end HH3.out H5.out HK.out HD.out
    refine ⟨by simp, .inl ⟨_, _, rfl, run_takeDeferred HK.out, ?_⟩⟩
    exact ⟨_, results_tmp2 rfl _ _ _, ⟨x, cap, by rw [HMN.out]; rfl, by rw [HMN.out]; exact z1, z2⟩⟩
end Go.Proofs.Ytepjdnokkgmhoaa
