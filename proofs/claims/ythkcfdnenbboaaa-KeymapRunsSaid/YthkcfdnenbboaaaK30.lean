/- Walk: Keys. -/
import Derived.Test.YthkcfdnenbboaaaK29
namespace Go.Proofs.Ythkcfdnenbboaaa
open Go.RowKit Go.Shelf Go.Maps Go.Sort Go.ChangeMaps
attribute [local go_sem] Oper.semAt_some
/-- The names of those places that have an act. -/
def keysOn (f : Bnd) (ss : List (List UInt8)) (a : Int) (l : List Nat) : List ByteArray := (l.filter fun i => f.act (nmAt ss i) == a).map (nmAt ss)
theorem keysOn_snoc (f : Bnd) (ss : List (List UInt8)) (a : Int) (l : List Nat) (i : Nat) : keysOn f ss a (l ++ [i]) = keysOn f ss a l ++ (if f.act (nmAt ss i) = a then [nmAt ss i] else []) := by
  unfold keysOn
  rw [List.filter_append, List.map_append]
  congr 1
  by_cases h : f.act (nmAt ss i) = a <;> simp [h]
theorem keysOn_len (f : Bnd) (ss : List (List UInt8)) (a : Int) (l : List Nat) : (keysOn f ss a l).length ≤ l.length := by
  unfold keysOn
  rw [List.length_map]
  exact List.length_filter_le _ _
abbrev KL (f : Bnd) (ss : List (List UInt8)) (a : Int) (xs : List (Fin ss.length)) : List ByteArray := keysOn f ss a (xs.map (·.1))
/-- A row of texts. -/
def SeesS (w : World) (x : Option Addr) (n : Nat) (l : List ByteArray) : Prop := n = l.length ∧ (0 < n → ∃ g, x = some ⟨g, 0, none⟩ ∧ g < w.heap.size ∧ ∀ i, i < n → w.cell? ⟨g, i, none⟩ = some (.string (l.getD i ByteArray.empty)))
theorem sees_strs {w : World} {b : Nat} {x : Option Addr} {m cap : Nat} {l : List ByteArray} (h : w.ownsRow b 9 1 (.slice x m cap) m (l.map .string)) (hl : l.length = m) : SeesS w x m l := by
  refine ⟨hl.symm, fun hp => ?_⟩
  obtain ⟨g, e, hg, hc⟩ := row_cell h hp
  refine ⟨g, e, hg, fun i hi => ?_⟩
  rw [hc i hi]
  simp [List.getD, hl, hi]
def KeysEnd (f : Bnd) (ss : List (List UInt8)) (a : Int) (w : World) (e : Ending) (w' : World) : Prop := ∃ x m cap, e = .returned (.slice x m cap) ∧ m ≤ cap ∧ SeesS w' x m (keysOn f ss a (List.range ss.length)) ∧ Below w.heap.size w w'
theorem keys_start (w : World) (a : Int) (p : Value) : BI w w.heap.size 30 (.int .i64 a) (w.heap.size + 1) 62 9 1 0 [] (((w.alloc (.cells #[.int .i64 a] 30)).alloc (.cells #[.slice none 0 0] 62)).alloc (.cells #[p] 22)) := by
  have b0 := ((Boxed.new w 30 (.int .i64 a)).alloc (.cells #[.slice none 0 0] 62)).alloc (.cells #[p] 22)
  have b1 := (Boxed.new (w.alloc (.cells #[.int .i64 a] 30)) 62 (.slice none 0 0)).alloc (.cells #[p] 22)
  simp only [World.size_alloc] at b1
  exact ⟨b0, ⟨.slice none 0 0, b1, World.ownsRow_nil _ _ _ _, trivial⟩, (((Below.refl _ w).alloc (Nat.le_refl _) _).alloc (by simp) _).alloc (by simp; omega) _, by simp⟩
set_option maxRecDepth 100000 in
set_option maxHeartbeats 4000000 in
theorem keys_yes {w : World} {b mb m c : Nat} {f : Bnd} (h : MapI w b mb m c f) (hm : m ≤ 100000) {ss : List (List UInt8)} (hs : NamesOf f ss) (a : Int) : Calls Try.prog 34 #[.pointer (some ⟨b, 0, none⟩), .int .i64 a] w (KeysEnd f ss a w) := by
  obtain ⟨i0, hi0, hz0, hz1, hz2⟩ := info_parts Try.info9
  have HI0 := Lib.hid hi0
  have HZ0 := Lib.hid hz0
  have HZ1 := Lib.hid hz1
  have HZ2 := Lib.hid hz2
  have HT := Lib.hid h
  have HMM := Lib.hid hm
  have HS := Lib.hid hs
  have HSL := Lib.hid (show ss.length ≤ 100000 by rw [h.map.count hs]; exact Nat.le_trans h.map.le hm)
  clear hi0 hz0 hz1 hz2 h hm hs
  refine (callsIn_wide (n := 6)).1 ?_
  refine callsIn_of_wp_marks Try.func34 rfl trivial ?_ rfl
  simp only [Try.ntmps34, List.size_toArray, List.length_cons, List.length_nil, Nat.reduceAdd, Nat.reduceSub, Array.replicate_succ, Array.replicate_zero, List.push_toArray, List.append_toArray, List.nil_append, List.cons_append]
  gi_wp2_with (refine ⟨trivial, ?_⟩; gi_at_call 55; refine (callsIn_wide.2 (wall _ _)).mono ?_; rintro e w' ⟨rfl, rfl⟩)
  have hsz : (((w.alloc (.cells #[.int .i64 a] 30)).alloc (.cells #[.slice none 0 0] 62)).alloc (.cells #[.pointer (some ⟨b, 0, none⟩)] 22)).heap.size = w.heap.size + 3 := by simp
  have hB3 : Below w.heap.size w (((w.alloc (.cells #[.int .i64 a] 30)).alloc (.cells #[.slice none 0 0] 62)).alloc (.cells #[.pointer (some ⟨b, 0, none⟩)] 22)) := (((Below.refl _ w).alloc (Nat.le_refl _) _).alloc (by simp) _).alloc (by simp; omega) _
  refine wpIn_rangeFunc_ownG rfl (by omega) (gf := 59) (lb := #[.pointer (some ⟨w.heap.size + 2, 0, none⟩)]) (by simp [go_sem]) trivial (enters_of Try.func59 (by kernel_rfl) rfl)
    (all_stops HT.out HMM.out HS.out hB3 (w.heap.size + 2) (w.heap.size + 1) (by simp) (by simp [go_sem]) (by simp) (by simp [go_sem])) KeepI.trans (keepI_b (by omega)) (Below.refl _ _) (fun _ => rfl)
    (fun pre W => pre.length ≤ 100000 + 0 * pre.length + ss.length ∧ BI w w.heap.size 30 (.int .i64 a) (w.heap.size + 1) 62 9 1 (KL f ss a pre).length ((KL f ss a pre).map .string) W)
    (fun _ _ _ => False)
    (OwnFrom.and (fun _ _ _ _ h _ _ => h) (bi_own _ _ _ _ _ _ _ _ _ (Nat.le_refl _) (by omega) _ _))
    (fun _ _ _ _ _ hs _ _ => hs)
    ⟨by simp, keys_start _ _ _⟩
    (fun y => { tmps := #[.pointer (some ⟨b, 0, none⟩), .int .i64 a, undef, .pointer (some ⟨w.heap.size, 0, none⟩), .slice none 0 0, .pointer (some ⟨w.heap.size + 1, 0, none⟩), .string (nmAt ss y.1), .int .i64 (f.act (nmAt ss y.1)), .pointer (some ⟨b, 0, none⟩), .func (.func 59) #[] #[.pointer (some ⟨w.heap.size + 1 + 1, 0, none⟩)], .string (nmAt ss y.1), .int .i64 (f.act (nmAt ss y.1)), undef, undef, undef, undef, undef, undef, undef, undef], defers := [] }) ?assign ?body ?done ?stop
  case assign =>
    intro l x W K hK
    unfold benc
    gi_wp2
    exact hK
  case body =>
    rintro l pre y W ⟨hlen, hI⟩ hlt
    obtain ⟨h1, ⟨v, h2, h3, _⟩, h5, h6⟩ := hI
    have hkl : (KL f ss a pre).length ≤ 100000 := by show (keysOn f ss a (pre.map (·.1))).length ≤ _; have := keysOn_len f ss a (pre.map (·.1)); rw [List.length_map] at this; have := HSL.out; omega
    have hsn := keysOn_snoc f ss a (pre.map (·.1)) y.1
    obtain ⟨x, cap, rfl⟩ := owns_slice h3
    have c1 := h1.cell
    have c2 := h2.cell
    have f2 := h2.frozen
    have hl2 := h2.lt
    obtain ⟨z, hz⟩ : ∃ z, z = f.act (nmAt ss y.1) := ⟨_, rfl⟩
    rw [← hz] at hsn
    have HZZ := Lib.hid hz
    by_cases ha : z = a
    · rw [if_pos ha] at hsn
      have HSN := Lib.hid (show KL f ss a (pre ++ [y]) = KL f ss a pre ++ [nmAt ss y.1] by show keysOn f ss a ((pre ++ [y]).map (·.1)) = _; rw [List.map_append]; exact hsn)
      obtain ⟨vs, hvs⟩ : ∃ vs, vs = KL f ss a pre := ⟨_, rfl⟩
      rw [← hvs] at h2 h3 c2 HSN hkl
      have HKL := Lib.hid hkl
      have HRB := Lib.hid (rebase h3)
      have HTK := Lib.hid (fun (w1 : World) (v' : Value) (ho : w1.ownsRow (baseOf W (.slice x vs.length cap)) 9 1 v' (vs.length + 1) (vs.map .string ++ [.string (nmAt ss y.1)])) hg => bi_keep (tmp := .cells #[.string (nmAt ss y.1)] 9) (w1 := w1) (v' := v') ⟨by omega, by omega⟩ ⟨by decide, by decide⟩ (by decide) h1 h2 h3 h5 h6 ho hg)
      have HBS := Lib.hid (show baseOf W (.slice x vs.length cap) ≤ (W.alloc (.cells #[.string (nmAt ss y.1)] 9)).heap.size by have := (baseOf_le h3 h6).1; simp; omega)
      subst ha
      have HL := Lib.hid hlen
      have HLT := Lib.hid hlt
      rw [← hz]
      clear h1 h2 h3 h5 h6 hlen hlt hkl hsn hvs hz
      gi_wp2_with (first | (gi_at_builtin; go_loud (refine wpListIn_append_own _ rfl _ _ 62 rfl (baseOf W (.slice x vs.length cap)) 9 i0 (.string ⟨#[]⟩) 1 16 Try.underlying62 HI0.out HZ0.out HZ1.out HZ2.out rfl (by decide) _ _ _ rfl (HRB.out.alloc _) ⟨W.heap.size, 0, none⟩ 1 1 [.string (nmAt ss y.1)] rfl rfl (cell_one_new _ _ _) (by simp [Value.oneCell']) (by have := HKL.out; unfold maxLen; omega) (by have := HKL.out; omega) HBS.out ?_); intro v1 w1 hown1 hgrow1 hnil1; obtain ⟨q1, q2, q3, q4⟩ := HTK.out w1 v1 hown1 hgrow1; obtain ⟨gg, cp, rfl⟩ := ownsRow_succ hown1; have HQ2 := Lib.hid q2; have HQ3 := Lib.hid q3; have HQ4 := Lib.hid q4; have cc := cell_of_one q1; have ff := free_of_one q1; have ll := lt_of_block q1; clear q1 q2 q3 q4 hown1 hgrow1 hnil1))
      exact ⟨by rw [hsz]; exact HQ3.out, HQ4.out, by have := HLT.out; simp; omega, by rw [HSN.out, List.length_append, List.map_append]; exact HQ2.out⟩
    · rw [if_neg ha, List.append_nil] at hsn
      have HSN := Lib.hid (show KL f ss a (pre ++ [y]) = KL f ss a pre by show keysOn f ss a ((pre ++ [y]).map (·.1)) = _; rw [List.map_append]; exact hsn)
      have HI := Lib.hid (show BI w w.heap.size 30 (.int .i64 a) (w.heap.size + 1) 62 9 1 (KL f ss a pre).length ((KL f ss a pre).map .string) W from ⟨h1, ⟨_, h2, h3, trivial⟩, h5, h6⟩)
      have t1 : (z == a) = false := by simpa using ha
      have HLT := Lib.hid hlt
      rw [← hz]
      clear h1 h2 h3 h5 h6 hlen hlt hkl hsn ha hz c2 f2 hl2
      gi_wp2
      exact ⟨KeepsFrom.refl _ _, KeepI.refl _ _, by have := HLT.out; simp; omega, by rw [HSN.out]; exact HI.out⟩
  case done =>
    rintro D xs W hD hS ⟨hlen, hI⟩ hK
    have hkk : KL f ss a xs = keysOn f ss a (List.range ss.length) := by show keysOn f ss a (xs.map (·.1)) = _; rw [hS]
    rw [hkk] at hI
    obtain ⟨h1, ⟨v, h2, h3, _⟩, h5, h6⟩ := hI
    obtain ⟨x, cap, rfl⟩ := owns_slice h3
    have c2 := h2.cell
    have HE := Lib.hid (show _ ∧ SeesS (W.putObj D (.deferred none)) x _ (keysOn f ss a (List.range ss.length)) ∧ Below w.heap.size w (W.putObj D (.deferred none)) from ⟨owns_cap h3, sees_strs (ownsRow_putObj h3 _ hK rfl) rfl, h5.trans (belowK_b (w := w) (Nat.le_refl _) _ D _ _ (by rw [hsz] at hD; omega) hK rfl rfl)⟩)
    have HK := Lib.hid hK
    clear h1 h2 h3 h5 h6 hlen hK hS hD hkk
    gi_wp2
    refine ⟨by simp, .inl ⟨_, _, rfl, run_takeDeferred HK.out, ?_⟩⟩
    exact ⟨_, results_tmp rfl _ _ _, ⟨x, _, cap, rfl, HE.out.1, HE.out.2.1, HE.out.2.2⟩⟩
  case stop =>
    rintro D c pre W _ _ h _
    exact h.elim
end Go.Proofs.Ythkcfdnenbboaaa
