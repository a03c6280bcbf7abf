/- Runs: the law's kinds. -/
import Derived.Test.YtcbdmaffcjdnbaaS5
import Derived.Deep.AppendLies
namespace Go.Proofs.Ytcbdmaffcjdnbaa
open Go.RowKit Go.Shelf Go.Maps
attribute [local go_sem] Oper.semAt_some
theorem Try.info56 : (Try.prog.info? 56).map (fun i => (i.zero, i.size, i.bytes)) = some (some (.agg #[.string ByteArray.empty, .int .i64 0, .int .i64 0, .int .i64 0]), 4, 40) := by kernel_rfl
theorem info_parts56 : ∃ i0, Try.prog.info? 56 = some i0 ∧ i0.zero = some (.agg #[.string ByteArray.empty, .int .i64 0, .int .i64 0, .int .i64 0]) ∧ i0.size = 4 ∧ i0.bytes = 40 := by
  have h := Try.info56
  cases hi : Try.prog.info? 56 with
  | none => rw [hi] at h; cases h
  | some i0 =>
    rw [hi] at h
    simp only [Option.map_some, Option.some.injEq, Prod.mk.injEq] at h
    exact ⟨i0, rfl, h.1, h.2.1, h.2.2⟩
def kcell (k : Kd) : List Value := [.string k.s, .int .i64 k.c, .int .i64 0, .int .i64 0]
def kflat (ks : List Kd) (xs : List (Fin ks.length)) : List Value := xs.flatMap fun x => kcell (kn ks x.1)
theorem kflat_snoc (ks : List Kd) (xs : List (Fin ks.length)) (x : Fin ks.length) : kflat ks (xs ++ [x]) = kflat ks xs ++ kcell (kn ks x.1) := by simp [kflat]
theorem kflat_get (ks : List Kd) (xs : List (Fin ks.length)) (i j : Nat) (hi : i < xs.length) (hj : j < 4) : (kflat ks xs)[i * 4 + j]? = (kcell (kn ks (xs[i]).1))[j]? := by
  induction xs generalizing i with
  | nil => simp at hi
  | cons x xs ih =>
    have e : kflat ks (x :: xs) = kcell (kn ks x.1) ++ kflat ks xs := by simp [kflat]
    have hl : (kcell (kn ks x.1)).length = 4 := rfl
    rw [e]
    cases i with
    | zero => rw [List.getElem?_append_left (by rw [hl]; omega)]; simp
    | succ i =>
      rw [List.getElem?_append_right (by rw [hl]; omega), hl, show (i + 1) * 4 + j - 4 = i * 4 + j by omega, ih i (by simpa using hi)]
      rfl
/-- What the loop's body keeps. -/
def KdsI (w : World) (n : Nat) (most : Nat) (k : Nat) (vs : List Value) (W : World) : Prop :=
  Boxed W n 3 (.int .i64 (most : Int)) ∧ (∃ v, Boxed W (n + 1) 49 v ∧ W.ownsRow (n + 3) 56 4 v k vs ∧ True) ∧ Below n w W ∧ n + 3 ≤ W.heap.size
theorem boxed_own {β : Type} (B n : Nat) (t : TypeId) (f : β → Value) : OwnFrom B (fun (b : β) W => Boxed W n t (f b)) := fun _ _ _ _ hs hg hr =>
  (grownBy_keeps_cells hg (fun r e => (hr r e).2) hs rfl).trans hs
theorem size_own {β : Type} (B n : Nat) : OwnFrom B (fun (_ : β) W => n ≤ W.heap.size) := fun _ _ _ _ hs hg _ => Nat.le_trans hs hg.size
theorem kds_own {β : Type} (w : World) (B n most : Nat) (hn : n ≤ w.heap.size) (hB : n ≤ B) (k : β → Nat) (vs : β → List Value) : OwnFrom B (fun b W => KdsI w n most (k b) (vs b) W) :=
  OwnFrom.and (boxed_own _ _ _ _) (OwnFrom.and (fun s X Y row h hg hr => holdsRow_own (n + 3) (n + 1) 49 56 4 k vs (fun _ _ => True) s X Y row h hg (fun r e => (hr r e).2)) (OwnFrom.and (ownFrom_below hn hB) (size_own _ _)))
theorem owns_weak {w : World} {b b' : Nat} {e : TypeId} {z n : Nat} {v : Value} {xs : List Value} (h : w.ownsRow b e z v n xs) (hb : b' ≤ b) : w.ownsRow b' e z v n xs := by
  refine ⟨h.1, h.2.imp id ?_⟩
  rintro ⟨g, cap, cur, h1, h2, h3⟩
  exact ⟨g, cap, cur, h1, Nat.le_trans hb h2, h3⟩
theorem kds_keep {w W w1 : World} {n most k : Nat} {vs ys : List Value} {tmp : Obj} {v v' : Value} (h1 : Boxed W n 3 (.int .i64 (most : Int))) (h2 : Boxed W (n + 1) 49 v) (h3 : W.ownsRow (n + 3) 56 4 v k vs) (h5 : Below n w W) (h6 : n + 3 ≤ W.heap.size)
    (hown : w1.ownsRow (n + 3) 56 4 v' (k + 1) ys) (hgrow : (W.alloc tmp).grownBy w1 v.ownBlock) :
    (Boxed w1 (n + 1) 49 v) ∧ KdsI w n most (k + 1) ys (w1.setCell ⟨n + 1, 0, none⟩ v') ∧ KeepsFrom (n + 3) W (w1.setCell ⟨n + 1, 0, none⟩ v') ∧ KeepP n (n + 2) W (w1.setCell ⟨n + 1, 0, none⟩ v') := by
  have hne : ∀ j, j < n + 3 → some j ≠ v.ownBlock := fun j hj e => by have := (h3.lt j e.symm).1; omega
  have hb1 : ∀ j, j < n + 3 → w1.heap[j]? = W.heap[j]? := fun j hj => by
    rw [hgrow.block j (by simp; omega) (hne j hj), Below.heap_alloc _ _ _ (by omega)]
  have hb2 : ∀ j, j < n + 3 → j ≠ n + 1 → (w1.setCell ⟨n + 1, 0, none⟩ v').heap[j]? = W.heap[j]? := fun j hj h => (Below.heap_setCell _ _ _ _ h).trans (hb1 j hj)
  obtain ⟨a1, a2, a3, a4, a5⟩ := Boxed.appended (n₀ := n) h2 (by decide) (owns_weak h3 (by omega)) (by omega) (by omega) (owns_weak hown (by omega)) hgrow
  refine ⟨a1, ⟨(hb2 n (by omega) (by omega)).trans h1, ⟨v', a2, ?_, trivial⟩, h5.trans (a5.mono (by have := h5.size; omega)), ?_⟩, a4.from _, a5, hb2 _ (by omega) (by omega)⟩
  · refine hown.kept (grownBy_setCell' w1 _ _) ?_
    rcases h : v'.ownBlock with _ | j
    · exact .inl rfl
    · exact .inr (by have := (hown.lt j h).1; simp; omega)
  · have := a4.size; omega
/-- A row of kinds: names and counts. -/
def SeesK (w : World) (x : Option Addr) (n : Nat) (ks : List Kd) : Prop := 0 < n → ∃ g, x = some ⟨g, 0, none⟩ ∧ g < w.heap.size ∧ ∀ i, i < n → w.cell? ⟨g, i * 4, none⟩ = some (.string (kn ks i).s) ∧ w.cell? ⟨g, i * 4 + 1, none⟩ = some (.int .i64 (kn ks i).c)
theorem add_at (g j : Nat) : (⟨g, 0, none⟩ : Addr).add j = ⟨g, j, none⟩ := by
  by_cases h : j = 0
  · subst h; rfl
  · simp [Addr.add, h]
theorem sees_of {w : World} {b : Nat} {x : Option Addr} {m cap : Nat} {ks : List Kd} {xs : List (Fin ks.length)} (h : w.ownsRow b 56 4 (.slice x m cap) m (kflat ks xs)) (hl : xs.length = m) (hx : xs.map (·.1) = List.range m) : SeesK w x m ks := fun hp => by
  have h' := h
  rcases h.2 with ⟨hv, h0⟩ | ⟨g, cp, cur, hv, hb, hg, hnc, hcm, hcs, htake⟩
  · omega
  · cases hv
    refine ⟨g, rfl, (Array.getElem?_eq_some_iff.1 hg).1, fun i hi => ?_⟩
    have hxi : (xs[i]'(by omega)).1 = i := by
      have := congrArg (fun l => l[i]?) hx
      simpa [List.getElem?_map, List.getElem?_eq_getElem (show i < xs.length by omega), hi] using this
    refine ⟨?_, ?_⟩
    · have := h'.cells (g := g) rfl (i * 4) (.string (kn ks i).s) (by rw [show i * 4 = i * 4 + 0 by omega, kflat_get ks xs i 0 (by omega) (by omega), hxi]; rfl)
      rwa [add_at] at this
    · have := h'.cells (g := g) rfl (i * 4 + 1) (.int .i64 (kn ks i).c) (by rw [kflat_get ks xs i 1 (by omega) (by omega), hxi]; rfl)
      rwa [add_at] at this
def KdsEnd (ks : List Kd) (m : Nat) (w : World) (e : Ending) (w' : World) : Prop := ∃ x cap, e = .returned (.slice x m cap) ∧ SeesK w' x m ks ∧ Below w.heap.size w w'
theorem kds_end {w W : World} {b D m cap : Nat} {x : Option Addr} {ks : List Kd} {xs : List (Fin ks.length)} (h3 : W.ownsRow b 56 4 (.slice x m cap) m (kflat ks xs)) (hl : xs.length = m) (hx : xs.map (·.1) = List.range m) (h5 : Below w.heap.size w W) (hK : W.heap[D]? = some (.deferred (some []))) (hD : w.heap.size ≤ D) :
    SeesK (W.putObj D (.deferred none)) x m ks ∧ Below w.heap.size w (W.putObj D (.deferred none)) :=
  ⟨sees_of (ownsRow_putObj h3 _ hK rfl) hl hx, h5.trans (belowK_b (w := w) (Nat.le_refl _) _ D _ _ hD hK rfl rfl)⟩
theorem kds_start (w : World) (most : Nat) (p : Value) (hB : Below w.heap.size w (((w.alloc (.cells #[.int .i64 (most : Int)] 3)).alloc (.cells #[.slice none 0 0] 49)).alloc (.cells #[p] 36))) :
    KdsI w w.heap.size most 0 [] (((w.alloc (.cells #[.int .i64 (most : Int)] 3)).alloc (.cells #[.slice none 0 0] 49)).alloc (.cells #[p] 36)) := by
  have b0 := ((Boxed.new w 3 (.int .i64 (most : Int))).alloc (.cells #[.slice none 0 0] 49)).alloc (.cells #[p] 36)
  have b1 := (Boxed.new (w.alloc (.cells #[.int .i64 (most : Int)] 3)) 49 (.slice none 0 0)).alloc (.cells #[p] 36)
  simp only [World.size_alloc] at b1
  exact ⟨b0, ⟨.slice none 0 0, b1, World.ownsRow_nil _ _ _ _, trivial⟩, hB, by simp⟩
set_option maxRecDepth 100000 in
set_option maxHeartbeats 4000000 in
theorem kinds_yes {w : World} {n0 b mb m : Nat} {ov : Value} {S : TS} (h : TalI w n0 b mb m ov S) (hI : IOk S.ks) (most : Nat) (hmm : most ≤ 1000) : Calls Try.prog 19 #[.pointer (some ⟨b, 0, none⟩), .int .i64 (most : Int)] w (KdsEnd S.ks (min S.ks.length most) w) := by
  have hfn := run_eql_func_nil
  obtain ⟨i0, hi0, hz0, hz1, hz2⟩ := info_parts56
  have HI0 := Lib.hid hi0
  have HZ0 := Lib.hid hz0
  have HZ1 := Lib.hid hz1
  have HZ2 := Lib.hid hz2
  have HM := Lib.hid hmm
  have HT := Lib.hid h
  have HI := Lib.hid hI
  clear hi0 hz0 hz1 hz2 hmm h hI
  refine (callsIn_wide (n := 6)).1 ?_
  refine callsIn_of_wp_marks Try.func19 rfl trivial ?_ rfl
  simp only [Try.ntmps19, List.size_toArray, List.length_cons, List.length_nil, Nat.reduceAdd, Nat.reduceSub, Array.replicate_succ, Array.replicate_zero, List.push_toArray, List.append_toArray, List.nil_append, List.cons_append]
  gi_wp2_with (refine ⟨trivial, ?_⟩; gi_at_call 28; refine (callsIn_wide.2 (tkinds _ _)).mono ?_; rintro e w' ⟨rfl, rfl⟩)
  clear hfn
  have hsz : (((w.alloc (.cells #[.int .i64 (most : Int)] 3)).alloc (.cells #[.slice none 0 0] 49)).alloc (.cells #[.pointer (some ⟨b, 0, none⟩)] 36)).heap.size = w.heap.size + 3 := by simp
  have hB3 : Below w.heap.size w (((w.alloc (.cells #[.int .i64 (most : Int)] 3)).alloc (.cells #[.slice none 0 0] 49)).alloc (.cells #[.pointer (some ⟨b, 0, none⟩)] 36)) := (((Below.refl _ w).alloc (Nat.le_refl _) _).alloc (by simp) _).alloc (by simp; omega) _
  refine wpIn_rangeFunc_ownG rfl (by omega) (gf := 31) (lb := #[.pointer (some ⟨w.heap.size + 2, 0, none⟩)]) (by simp [go_sem]) trivial (enters_of Try.func31 (by kernel_rfl) rfl)
    (iter_stops HT.out HI.out hB3 (w.heap.size + 2) (by simp) (by simp [go_sem])) KeepP.trans (keepP_b (by omega) (by omega)) (Below.refl _ _) (fun _ => rfl)
    (fun pre W => pre.length ≤ most ∧ KdsI w w.heap.size most pre.length (kflat S.ks pre) W)
    (fun c xs W => c = .exit 0 ∧ xs.length = most + 1 ∧ KdsI w w.heap.size most most (kflat S.ks xs.dropLast) W)
    (OwnFrom.and (fun _ _ _ _ h _ _ => h) (kds_own _ _ _ _ (Nat.le_refl _) (by omega) _ _))
    (fun c => OwnFrom.and (fun _ _ _ _ h _ _ => h) (OwnFrom.and (fun _ _ _ _ h _ _ => h) (kds_own _ _ _ _ (Nat.le_refl _) (by omega) _ _)))
    ⟨Nat.zero_le _, kds_start _ _ _ hB3⟩
    (fun y => { tmps := #[.pointer (some ⟨b, 0, none⟩), .int .i64 (most : Int), undef, .pointer (some ⟨w.heap.size, 0, none⟩), .slice none 0 0, .pointer (some ⟨w.heap.size + 1, 0, none⟩), .func (.func 31) #[] #[.pointer (some ⟨w.heap.size + 1 + 1, 0, none⟩)], .string (kn S.ks y.1).s, .int .i64 (kn S.ks y.1).c, .pointer (some ⟨b, 0, none⟩), .func (.func 31) #[] #[.pointer (some ⟨w.heap.size + 1 + 1, 0, none⟩)], .func (.func 31) #[] #[.pointer (some ⟨w.heap.size + 1 + 1, 0, none⟩)], .bool false, .func (.func 31) #[] #[.pointer (some ⟨w.heap.size + 1 + 1, 0, none⟩)], .string (kn S.ks y.1).s, .int .i64 (kn S.ks y.1).c, undef, undef, undef, undef, undef, undef, undef, undef, undef, undef, undef], defers := [] }) ?assign ?body ?done ?stop
  case assign =>
    intro l x W K hK
    unfold kenc
    gi_wp2
    exact hK
  case body =>
    rintro l pre y W ⟨hlen, hI⟩ hlt
    obtain ⟨h1, ⟨v, h2, h3, _⟩, h5, h6⟩ := hI
    obtain ⟨x, cap, rfl⟩ := owns_slice h3
    have c1 := h1.cell
    have c2 := h2.cell
    have f2 := h2.frozen
    have hl2 := h2.lt
    have H1 := Lib.hid h1
    have H2 := Lib.hid h2
    have H3 := Lib.hid h3
    have H5 := Lib.hid h5
    have H6 := Lib.hid h6
    have HL := Lib.hid hlen
    by_cases hm : most ≤ pre.length
    · have g1 : decide (most ≤ pre.length) = true := by simpa using hm
      have HMM := Lib.hid hm
      clear h1 h2 h3 h5 h6 hm hlen hlt
      gi_wp2
      exact ⟨KeepsFrom.refl _ _, rfl, by have := HL.out; have := HMM.out; simp; omega, by rw [List.dropLast_concat, show most = pre.length by have := HL.out; have := HMM.out; omega]; exact ⟨by have := HL.out; have := HMM.out; rw [show pre.length = most by omega]; exact H1.out, ⟨_, H2.out, H3.out, trivial⟩, H5.out, H6.out⟩⟩
    · have g1 : decide (most ≤ pre.length) = false := by simpa using hm
      have HMM := Lib.hid hm
      have hnl := HI.out.len
      have HNL := Lib.hid (show pre.length ≤ 100 by omega)
      have hcn : ∀ (j : Nat) (u : Value), (kcell (kn S.ks y.1))[j]? = some u → (W.alloc (.cells #[.string (kn S.ks y.1).s, .int .i64 (kn S.ks y.1).c, .int .i64 0, .int .i64 0] 56)).cell? ((⟨W.heap.size, 0, none⟩ : Addr).add j) = some u := fun j u hu => by
        have := World.news_of_block (cs := #[.string (kn S.ks y.1).s, .int .i64 (kn S.ks y.1).c, .int .i64 0, .int .i64 0]) (t := 56) (fr := (0, 0)) (heap_alloc_new W _) j u hu
        exact this
      have HCN := Lib.hid hcn
      have HTK := Lib.hid (fun (w1 : World) (v' : Value) (ho : w1.ownsRow (w.heap.size + 3) 56 4 v' (pre.length + 1) (kflat S.ks pre ++ kcell (kn S.ks y.1))) hg => kds_keep (most := most) (tmp := .cells #[.string (kn S.ks y.1).s, .int .i64 (kn S.ks y.1).c, .int .i64 0, .int .i64 0] 56) (w1 := w1) (v' := v') h1 h2 h3 h5 h6 ho hg)
      have HBS := Lib.hid (show w.heap.size + 3 ≤ (W.alloc (.cells #[.string (kn S.ks y.1).s, .int .i64 (kn S.ks y.1).c, .int .i64 0, .int .i64 0] 56)).heap.size by simp; omega)
      clear h1 h2 h3 h5 h6 hm hlen hlt hcn hnl
      gi_wp2_with (first | (gi_at_builtin; go_loud (refine wpListIn_append_own _ rfl _ _ 49 rfl (w.heap.size + 3) 56 i0 (.agg #[.string ByteArray.empty, .int .i64 0, .int .i64 0, .int .i64 0]) 4 40 Try.underlying49 HI0.out HZ0.out HZ1.out HZ2.out rfl (by decide) _ _ _ rfl (H3.out.alloc _) ⟨W.heap.size, 0, none⟩ 1 1 (kcell (kn S.ks y.1)) rfl rfl HCN.out (by intro u hu; simp [kcell] at hu; rcases hu with rfl | rfl | rfl <;> rfl) (by have := HNL.out; unfold maxLen; omega) (by have := HNL.out; omega) HBS.out ?_); intro v1 w1 hown1 hgrow1 hnil1; obtain ⟨q1, q2, q3, q4⟩ := HTK.out w1 v1 hown1 hgrow1; obtain ⟨gg, cp, rfl⟩ := ownsRow_succ hown1; have HQ2 := Lib.hid q2; have HQ3 := Lib.hid q3; have HQ4 := Lib.hid q4; have cc := cell_of_one q1; have ff := free_of_one q1; have ll := lt_of_block q1; clear q1 q2 q3 q4 hown1 hgrow1 hnil1))
      exact ⟨by rw [hsz]; exact HQ3.out, HQ4.out, by have := HMM.out; simp; omega, by rw [List.length_append, List.length_singleton, kflat_snoc]; exact HQ2.out⟩
  case done =>
    rintro D xs W hD hS ⟨hlen, hI⟩ hK
    have hl : xs.length = S.ks.length := by have := congrArg List.length hS; simpa using this
    rw [hl] at hI hlen
    obtain ⟨h1, ⟨v, h2, h3, _⟩, h5, h6⟩ := hI
    obtain ⟨x, cap, rfl⟩ := owns_slice h3
    have c2 := h2.cell
    have HMN := Lib.hid (Nat.min_eq_left hlen)
    have HZ := Lib.hid (kds_end h3 hl hS h5 hK (by rw [hsz] at hD; omega))
    have HK := Lib.hid hK
    clear h1 h2 h3 h5 h6 hl hlen hK hS hD
    gi_wp2
    refine ⟨by simp, .inl ⟨_, _, rfl, run_takeDeferred HK.out, ?_⟩⟩
    exact ⟨_, results_tmp rfl _ _ _, ⟨x, cap, by rw [HMN.out]; rfl, by rw [HMN.out]; exact HZ.out.1, HZ.out.2⟩⟩
  case stop =>
    rintro D c pre W hD ⟨k, hk1, hk2, hk3⟩ ⟨rfl, hlen, hI⟩ hK
    have hl : pre.length = k := by have := congrArg List.length hk3; simpa using this
    have hk : k = most + 1 := by omega
    subst hk
    have hd : pre.dropLast.map (·.1) = List.range most := by rw [List.map_dropLast, hk3, List.range_succ, List.dropLast_concat]
    obtain ⟨h1, ⟨v, h2, h3, _⟩, h5, h6⟩ := hI
    obtain ⟨x, cap, rfl⟩ := owns_slice h3
    have c2 := h2.cell
    have HMN := Lib.hid (Nat.min_eq_right (by omega : most ≤ S.ks.length))
    have HZ := Lib.hid (kds_end h3 (by rw [List.length_dropLast]; omega) hd h5 hK (by rw [hsz] at hD; omega))
    have HK := Lib.hid hK
    clear h1 h2 h3 h5 h6 hl hlen hK hk1 hk2 hk3 hD hd
    gi_wp2
    refine ⟨by simp, .inl ⟨_, _, rfl, run_takeDeferred HK.out, ?_⟩⟩
    exact ⟨_, results_tmp rfl _ _ _, ⟨x, cap, by rw [HMN.out]; rfl, by rw [HMN.out]; exact HZ.out.1, HZ.out.2⟩⟩
end Go.Proofs.Ytcbdmaffcjdnbaa
