/- Walk: told. -/
import Derived.Test.YthkcfdnenbboaaaK28
import Derived.Deep.AppendLies
namespace Go.Proofs.Ythkcfdnenbboaaa
open Go.RowKit Go.Shelf Go.Maps Go.Sort Go.ChangeMaps
attribute [local go_sem] Oper.semAt_some
theorem Try.info91 : (Try.prog.info? 91).map (fun i => (i.zero, i.size, i.bytes)) = some (some (.agg #[.string ByteArray.empty, .int .i64 0]), 2, 24) := by kernel_rfl
theorem info_parts91 : ∃ i0, Try.prog.info? 91 = some i0 ∧ i0.zero = some (.agg #[.string ByteArray.empty, .int .i64 0]) ∧ i0.size = 2 ∧ i0.bytes = 24 := by
  have h := Try.info91
  cases hi : Try.prog.info? 91 with
  | none => rw [hi] at h; cases h
  | some i0 =>
    rw [hi] at h
    simp only [Option.map_some, Option.some.injEq, Prod.mk.injEq] at h
    exact ⟨i0, rfl, h.1, h.2.1, h.2.2⟩
def bndc (f : Bnd) (ss : List (List UInt8)) (i : Nat) : List Value := [.string (nmAt ss i), .int .i64 (f.act (nmAt ss i))]
def bflat (f : Bnd) (ss : List (List UInt8)) (xs : List (Fin ss.length)) : List Value := xs.flatMap fun x => bndc f ss x.1
theorem bflat_snoc (f : Bnd) (ss : List (List UInt8)) (xs : List (Fin ss.length)) (x : Fin ss.length) : bflat f ss (xs ++ [x]) = bflat f ss xs ++ bndc f ss x.1 := by simp [bflat]
theorem bflat_get (f : Bnd) (ss : List (List UInt8)) (xs : List (Fin ss.length)) (i j : Nat) (hi : i < xs.length) (hj : j < 2) : (bflat f ss xs)[i * 2 + j]? = (bndc f ss (xs[i]).1)[j]? := by
  induction xs generalizing i with
  | nil => simp at hi
  | cons x xs ih =>
    have e : bflat f ss (x :: xs) = bndc f ss x.1 ++ bflat f ss xs := by simp [bflat]
    have hl : (bndc f ss x.1).length = 2 := rfl
    rw [e]
    cases i with
    | zero => rw [List.getElem?_append_left (by rw [hl]; omega)]; simp
    | succ i =>
      rw [List.getElem?_append_right (by rw [hl]; omega), hl, show (i + 1) * 2 + j - 2 = i * 2 + j by omega, ih i (by simpa using hi)]
      rfl
/-- A row of bindings. -/
def SeesB (w : World) (x : Option Addr) (n : Nat) (f : Bnd) (ss : List (List UInt8)) : Prop := 0 < n → ∃ g, x = some ⟨g, 0, none⟩ ∧ g < w.heap.size ∧ ∀ i, i < n → w.cell? ⟨g, i * 2, none⟩ = some (.string (nmAt ss i)) ∧ w.cell? ⟨g, i * 2 + 1, none⟩ = some (.int .i64 (f.act (nmAt ss i)))
theorem add_at (g j : Nat) : (⟨g, 0, none⟩ : Addr).add j = ⟨g, j, none⟩ := by
  by_cases h : j = 0
  · subst h; rfl
  · simp [Addr.add, h]
theorem sees_of {w : World} {b : Nat} {x : Option Addr} {m cap : Nat} {f : Bnd} {ss : List (List UInt8)} {xs : List (Fin ss.length)} (h : w.ownsRow b 91 2 (.slice x m cap) m (bflat f ss xs)) (hl : xs.length = m) (hx : xs.map (·.1) = List.range m) : SeesB w x m f ss := fun hp => by
  have h' := h
  rcases h.2 with ⟨hv, h0⟩ | ⟨g, cp, cur, hv, hb, hg, hnc, hcm, hcs, htake⟩
  · omega
  · cases hv
    refine ⟨g, rfl, (Array.getElem?_eq_some_iff.1 hg).1, fun i hi => ?_⟩
    have hxi : (xs[i]'(by omega)).1 = i := by
      have := congrArg (fun l => l[i]?) hx
      simpa [List.getElem?_map, List.getElem?_eq_getElem (show i < xs.length by omega), hi] using this
    refine ⟨?_, ?_⟩
    · have := h'.cells (g := g) rfl (i * 2) (.string (nmAt ss i)) (by rw [show i * 2 = i * 2 + 0 by omega, bflat_get f ss xs i 0 (by omega) (by omega), hxi]; rfl)
      rwa [add_at] at this
    · have := h'.cells (g := g) rfl (i * 2 + 1) (.int .i64 (f.act (nmAt ss i))) (by rw [bflat_get f ss xs i 1 (by omega) (by omega), hxi]; rfl)
      rwa [add_at] at this
def ToldEnd (f : Bnd) (ss : List (List UInt8)) (m : Nat) (w : World) (e : Ending) (w' : World) : Prop := ∃ x cap, e = .returned (.tuple #[.slice x m cap, .bool true]) ∧ m ≤ cap ∧ SeesB w' x m f ss ∧ Below w.heap.size w w'
theorem owns_cap {w : World} {b : Nat} {e : TypeId} {z : Nat} {x : Option Addr} {m cap : Nat} {xs : List Value} (h : w.ownsRow b e z (.slice x m cap) m xs) : m ≤ cap := by
  rcases h.2 with ⟨hv, h0⟩ | ⟨g, cp, cur, hv, hb, hg, hnc, hcm, hcs, htake⟩
  · cases hv; exact Nat.le_refl _
  · cases hv; exact hnc
theorem told_end {w W : World} {b D m cap : Nat} {x : Option Addr} {f : Bnd} {ss : List (List UInt8)} {xs : List (Fin ss.length)} (h3 : W.ownsRow b 91 2 (.slice x m cap) m (bflat f ss xs)) (hl : xs.length = m) (hx : xs.map (·.1) = List.range m) (h5 : Below w.heap.size w W) (hK : W.heap[D]? = some (.deferred (some []))) (hD : w.heap.size ≤ D) :
    m ≤ cap ∧ SeesB (W.putObj D (.deferred none)) x m f ss ∧ Below w.heap.size w (W.putObj D (.deferred none)) :=
  ⟨owns_cap h3, sees_of (ownsRow_putObj h3 _ hK rfl) hl hx, h5.trans (belowK_b (w := w) (Nat.le_refl _) _ D _ _ hD hK rfl rfl)⟩
theorem told_start (w : World) (most : Nat) (p : Value) : BI w w.heap.size 3 (.int .i64 (most : Int)) (w.heap.size + 2) 42 91 2 0 [] (((w.alloc (.cells #[.int .i64 (most : Int)] 3)).alloc (.cells #[p] 22)).alloc (.cells #[.slice none 0 0] 42)) := by
  have b0 := ((Boxed.new w 3 (.int .i64 (most : Int))).alloc (.cells #[p] 22)).alloc (.cells #[.slice none 0 0] 42)
  have b1 := Boxed.new ((w.alloc (.cells #[.int .i64 (most : Int)] 3)).alloc (.cells #[p] 22)) 42 (.slice none 0 0)
  simp only [World.size_alloc] at b1
  exact ⟨b0, ⟨.slice none 0 0, b1, World.ownsRow_nil _ _ _ _, trivial⟩, (((Below.refl _ w).alloc (Nat.le_refl _) _).alloc (by simp) _).alloc (by simp; omega) _, by simp⟩
set_option maxRecDepth 100000 in
set_option maxHeartbeats 4000000 in
theorem told_yes {w : World} {b mb m c : Nat} {f : Bnd} (h : MapI w b mb m c f) (hm : m ≤ 100000) {ss : List (List UInt8)} (hs : NamesOf f ss) (most : Nat) (hmm : most ≤ 1000) : Calls Try.prog 31 #[.pointer (some ⟨b, 0, none⟩), .int .i64 (most : Int)] w (ToldEnd f ss (min ss.length most) w) := by
  have hfn := run_eql_func_nil
  obtain ⟨i0, hi0, hz0, hz1, hz2⟩ := info_parts91
  have HI0 := Lib.hid hi0
  have HZ0 := Lib.hid hz0
  have HZ1 := Lib.hid hz1
  have HZ2 := Lib.hid hz2
  have HM := Lib.hid hmm
  have HT := Lib.hid h
  have HMM := Lib.hid hm
  have HS := Lib.hid hs
  have HSL := Lib.hid (show ss.length ≤ 100000 by rw [h.map.count hs]; exact Nat.le_trans h.map.le hm)
  clear hi0 hz0 hz1 hz2 hmm h hm hs
  refine (callsIn_wide (n := 6)).1 ?_
  refine callsIn_of_wp_marks Try.func31 rfl trivial ?_ rfl
  simp only [Try.ntmps31, List.size_toArray, List.length_cons, List.length_nil, Nat.reduceAdd, Nat.reduceSub, Array.replicate_succ, Array.replicate_zero, List.push_toArray, List.append_toArray, List.nil_append, List.cons_append]
  gi_wp2_with (refine ⟨trivial, ?_⟩; gi_at_call 55; refine (callsIn_wide.2 (wall _ _)).mono ?_; rintro e w' ⟨rfl, rfl⟩)
  clear hfn
  have hsz : (((w.alloc (.cells #[.int .i64 (most : Int)] 3)).alloc (.cells #[.pointer (some ⟨b, 0, none⟩)] 22)).alloc (.cells #[.slice none 0 0] 42)).heap.size = w.heap.size + 3 := by simp
  have hB3 : Below w.heap.size w (((w.alloc (.cells #[.int .i64 (most : Int)] 3)).alloc (.cells #[.pointer (some ⟨b, 0, none⟩)] 22)).alloc (.cells #[.slice none 0 0] 42)) := (((Below.refl _ w).alloc (Nat.le_refl _) _).alloc (by simp) _).alloc (by simp; omega) _
  refine wpIn_rangeFunc_ownG rfl (by omega) (gf := 59) (lb := #[.pointer (some ⟨w.heap.size + 1, 0, none⟩)]) (by simp [go_sem]) trivial (enters_of Try.func59 (by kernel_rfl) rfl)
    (all_stops HT.out HMM.out HS.out hB3 (w.heap.size + 1) (w.heap.size + 2) (by simp) (by simp [go_sem]) (by simp) (by simp [go_sem])) KeepI.trans (keepI_b (by omega)) (Below.refl _ _) (fun _ => rfl)
    (fun pre W => pre.length ≤ most ∧ BI w w.heap.size 3 (.int .i64 (most : Int)) (w.heap.size + 2) 42 91 2 pre.length (bflat f ss pre) W)
    (fun c xs W => c = .exit 0 ∧ xs.length = most + 1 ∧ BI w w.heap.size 3 (.int .i64 (most : Int)) (w.heap.size + 2) 42 91 2 most (bflat f ss xs.dropLast) W)
    (OwnFrom.and (fun _ _ _ _ h _ _ => h) (bi_own _ _ _ _ _ _ _ _ _ (Nat.le_refl _) (by omega) _ _))
    (fun c => OwnFrom.and (fun _ _ _ _ h _ _ => h) (OwnFrom.and (fun _ _ _ _ h _ _ => h) (bi_own _ _ _ _ _ _ _ _ _ (Nat.le_refl _) (by omega) _ _)))
    ⟨Nat.zero_le _, told_start _ _ _⟩
    (fun y => { tmps := #[.pointer (some ⟨b, 0, none⟩), .int .i64 (most : Int), undef, .pointer (some ⟨w.heap.size, 0, none⟩), .slice none 0 0, .bool false, .func (.func 59) #[] #[.pointer (some ⟨w.heap.size + 1, 0, none⟩)], .pointer (some ⟨w.heap.size + 1 + 1, 0, none⟩), .string (nmAt ss y.1), .int .i64 (f.act (nmAt ss y.1)), .pointer (some ⟨b, 0, none⟩), .func (.func 59) #[] #[.pointer (some ⟨w.heap.size + 1, 0, none⟩)], .func (.func 59) #[] #[.pointer (some ⟨w.heap.size + 1, 0, none⟩)], .bool false, .func (.func 59) #[] #[.pointer (some ⟨w.heap.size + 1, 0, none⟩)], .string (nmAt ss y.1), .int .i64 (f.act (nmAt ss y.1)), undef, undef, undef, undef, undef, undef, undef, undef, undef, undef, undef], defers := [] }) ?assign ?body ?done ?stop
  case assign =>
    intro l x W K hK
    unfold benc
    gi_wp2
    exact hK
  case body =>
    rintro l pre y W ⟨hlen, hI⟩ hlt
    obtain ⟨h1, ⟨v, h2, h3, _⟩, h5, h6⟩ := hI
    obtain ⟨x, cap, rfl⟩ := owns_slice h3
    have c1 := h1.cell
    have c2 := h2.cell
    have f2 := h2.frozen
    have hl2 := h2.lt
    have H1 := Lib.hid h1
    have H2 := Lib.hid h2
    have H3 := Lib.hid h3
    have H5 := Lib.hid h5
    have H6 := Lib.hid h6
    have HL := Lib.hid hlen
    by_cases hm : most ≤ pre.length
    · have g1 : decide (most ≤ pre.length) = true := by simpa using hm
      have HMX := Lib.hid hm
      clear h1 h2 h3 h5 h6 hm hlen hlt
      gi_wp2
      exact ⟨KeepsFrom.refl _ _, rfl, by have := HL.out; have := HMX.out; simp; omega, by rw [List.dropLast_concat, show most = pre.length by have := HL.out; have := HMX.out; omega]; exact ⟨by have := HL.out; have := HMX.out; rw [show pre.length = most by omega]; exact H1.out, ⟨_, H2.out, H3.out, trivial⟩, H5.out, H6.out⟩⟩
    · have g1 : decide (most ≤ pre.length) = false := by simpa using hm
      have HMX := Lib.hid hm
      have HNL := Lib.hid (show pre.length ≤ 100000 by have := HM.out; omega)
      have hcn : ∀ (j : Nat) (u : Value), (bndc f ss y.1)[j]? = some u → (W.alloc (.cells #[.string (nmAt ss y.1), .int .i64 (f.act (nmAt ss y.1))] 91)).cell? ((⟨W.heap.size, 0, none⟩ : Addr).add j) = some u := fun j u hu => by
        have := World.news_of_block (cs := #[.string (nmAt ss y.1), .int .i64 (f.act (nmAt ss y.1))]) (t := 91) (fr := (0, 0)) (heap_alloc_new W _) j u hu
        exact this
      have HCN := Lib.hid hcn
      have HRB := Lib.hid (rebase h3)
      have HTK := Lib.hid (fun (w1 : World) (v' : Value) (ho : w1.ownsRow (baseOf W (.slice x pre.length cap)) 91 2 v' (pre.length + 1) (bflat f ss pre ++ bndc f ss y.1)) hg => bi_keep (tmp := .cells #[.string (nmAt ss y.1), .int .i64 (f.act (nmAt ss y.1))] 91) (w1 := w1) (v' := v') ⟨by omega, by omega⟩ ⟨by decide, by decide⟩ (by decide) h1 h2 h3 h5 h6 ho hg)
      have HBS := Lib.hid (show baseOf W (.slice x pre.length cap) ≤ (W.alloc (.cells #[.string (nmAt ss y.1), .int .i64 (f.act (nmAt ss y.1))] 91)).heap.size by have := (baseOf_le h3 h6).1; simp; omega)
      clear h1 h2 h3 h5 h6 hm hlen hlt hcn
      gi_wp2_with (first | (gi_at_builtin; go_loud (refine wpListIn_append_own _ rfl _ _ 42 rfl (baseOf W (.slice x pre.length cap)) 91 i0 (.agg #[.string ByteArray.empty, .int .i64 0]) 2 24 Try.underlying42 HI0.out HZ0.out HZ1.out HZ2.out rfl (by decide) _ _ _ rfl (HRB.out.alloc _) ⟨W.heap.size, 0, none⟩ 1 1 (bndc f ss y.1) rfl rfl HCN.out (by intro u hu; simp [bndc] at hu; rcases hu with rfl | rfl <;> rfl) (by have := HNL.out; unfold maxLen; omega) (by have := HNL.out; omega) HBS.out ?_); intro v1 w1 hown1 hgrow1 hnil1; obtain ⟨q1, q2, q3, q4⟩ := HTK.out w1 v1 hown1 hgrow1; obtain ⟨gg, cp, rfl⟩ := ownsRow_succ hown1; have HQ2 := Lib.hid q2; have HQ3 := Lib.hid q3; have HQ4 := Lib.hid q4; have cc := cell_of_one q1; have ff := free_of_one q1; have ll := lt_of_block q1; clear q1 q2 q3 q4 hown1 hgrow1 hnil1))
      exact ⟨by rw [hsz]; exact HQ3.out, HQ4.out, by have := HMX.out; simp; omega, by rw [List.length_append, List.length_singleton, bflat_snoc]; exact HQ2.out⟩
  case done =>
    rintro D xs W hD hS ⟨hlen, hI⟩ hK
    have hl : xs.length = ss.length := by have := congrArg List.length hS; simpa using this
    rw [hl] at hI hlen
    obtain ⟨h1, ⟨v, h2, h3, _⟩, h5, h6⟩ := hI
    obtain ⟨x, cap, rfl⟩ := owns_slice h3
    have c2 := h2.cell
    have HMN := Lib.hid (Nat.min_eq_left hlen)
    have HZ := Lib.hid (told_end h3 hl hS h5 hK (by rw [hsz] at hD; omega))
    have HK := Lib.hid hK
    clear h1 h2 h3 h5 h6 hl hlen hK hS hD
    gi_wp2
    refine ⟨by simp, .inl ⟨_, _, rfl, run_takeDeferred HK.out, ?_⟩⟩
    exact ⟨_, results_tmp2 rfl _ _ _, ⟨x, cap, by rw [HMN.out]; rfl, by rw [HMN.out]; exact HZ.out.1, by rw [HMN.out]; exact HZ.out.2.1, HZ.out.2.2⟩⟩
  case stop =>
    rintro D c pre W hD ⟨k, hk1, hk2, hk3⟩ ⟨rfl, hlen, hI⟩ hK
    have hl : pre.length = k := by have := congrArg List.length hk3; simpa using this
    have hk : k = most + 1 := by omega
    subst hk
    have hd : pre.dropLast.map (·.1) = List.range most := by rw [List.map_dropLast, hk3, List.range_succ, List.dropLast_concat]
    obtain ⟨h1, ⟨v, h2, h3, _⟩, h5, h6⟩ := hI
    obtain ⟨x, cap, rfl⟩ := owns_slice h3
    have c2 := h2.cell
    have HMN := Lib.hid (Nat.min_eq_right (by omega : most ≤ ss.length))
    have HZ := Lib.hid (told_end h3 (by rw [List.length_dropLast]; omega) hd h5 hK (by rw [hsz] at hD; omega))
    have HK := Lib.hid hK
    clear h1 h2 h3 h5 h6 hl hlen hK hk1 hk2 hk3 hD hd
    gi_wp2
    refine ⟨by simp, .inl ⟨_, _, rfl, run_takeDeferred HK.out, ?_⟩⟩
    exact ⟨_, results_tmp2 rfl _ _ _, ⟨x, cap, by rw [HMN.out]; rfl, by rw [HMN.out]; exact HZ.out.1, by rw [HMN.out]; exact HZ.out.2.1, HZ.out.2.2⟩⟩
end Go.Proofs.Ythkcfdnenbboaaa
