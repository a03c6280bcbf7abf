/- Runs: how a tally lies in memory. -/
import Derived.Test.YtcbdmaffcjdnbaaS1
namespace Go.Proofs.Ytcbdmaffcjdnbaa
open Go.RowKit Go.Shelf Go.Maps Go.ChangeMaps Go.WideElems Go.WideMaps Go.WideShapes
theorem Try.law9 : Keyed Try.prog 9 := string_keyed Try.underlying9
def keyL (s : ByteArray) : Lit := .string s.data.toList
theorem keyL_inj {s t : ByteArray} (h : keyL s = keyL t) : s = t := by
  unfold keyL at h
  injection h with h
  apply ByteArray.ext
  exact Array.toList_inj.1 h
theorem keyL_key (s : ByteArray) : WideAt.IsKeyLit (keyL s) := by unfold keyL; trivial
theorem keyL_of {s : ByteArray} (h : s.size ≤ maxLen) : keyOf Try.prog 9 (.string s) = some (keyL s) := keyOf_string_mk Try.underlying9 h
def kval (k : Kd) : Value := .agg #[.int .i64 k.c, .int .i64 k.a, .int .i64 k.t]
def kdat (k : Kd) : DataW Unit := .agg [.lit (.int .i64 k.c), .lit (.int .i64 k.a), .lit (.int .i64 k.t)]
def kelem : Value → Option (DataW Unit × List MemPlace)
  | .agg xs => match xs.toList with
    | [.int .i64 c, .int .i64 a, .int .i64 t] => some (.agg [.lit (.int .i64 c), .lit (.int .i64 a), .lit (.int .i64 t)], [])
    | _ => none
  | _ => none
theorem kelem_mk (k : Kd) : kelem (kval k) = some (kdat k, []) := rfl
theorem kelem_inv {v : Value} {k : Kd} {ps : List MemPlace} (h : kelem v = some (kdat k, ps)) : v = kval k := by
  unfold kelem at h
  split at h
  · rename_i xs
    split at h
    · rename_i c a t e
      simp only [kdat, Option.some.injEq, Prod.mk.injEq, DataW.agg.injEq, List.cons.injEq, DataW.lit.injEq, Lit.int.injEq, true_and, and_true] at h
      obtain ⟨⟨rfl, rfl, rfl⟩, _⟩ := h
      unfold kval
      congr 1
      exact Array.toList_inj.1 (by rw [e])
    · cases h
  · cases h
theorem zero38 (w : World) : (zeroValue 38).run Try.prog w = .ok (kval kz) w := by kernel_rfl
/-- Block mb is a map of what is noted. -/
def MapIs (w : World) (mb m : Nat) (ks : List Kd) : Prop :=
  ∃ (D : DataW Unit) (n : Nat), n ≤ m ∧ w.ownsMap Try.prog 9 kelem mb n D ∧ ∀ s, has D (keyL s) = decide (plc ks s < ks.length) ∧ (plc ks s < ks.length → ∀ z, D.atKey (keyL s) z = kdat (kof ks s))
theorem MapIs.at {w : World} {mb m : Nat} {ks : List Kd} (h : MapIs w mb m ks) : ∃ (D : DataW Unit) (n : Nat), n ≤ m ∧ w.ownsMap Try.prog 9 kelem mb n D ∧ (∀ s, has D (keyL s) = decide (plc ks s < ks.length)) ∧ ∀ s, D.atKey (keyL s) (kdat kz) = kdat (kof ks s) := by
  obtain ⟨D, n, h1, h2, h3⟩ := h
  refine ⟨D, n, h1, h2, fun s => (h3 s).1, fun s => ?_⟩
  by_cases q : plc ks s < ks.length
  · exact (h3 s).2 q _
  · rw [atKey_of_not_has (by rw [(h3 s).1]; exact decide_eq_false q)]
    unfold kof; rw [if_neg q]
/-- 't.kinds[s]'. -/
theorem wpList_look_kd {P : Program} (w : World) {ops : Array Oper} {rest : List Oper} {o : Oper} {a : Act} {Q : Exit → Act → World → Prop}
    (hP : P = Try.prog) (hg : o.guard = none) (m x : Operand) (hop : o.op = Op.lookup 40 m x false) (mb M : Nat) (ks : List Kd) (hm : a.eval m = .map (some mb)) (hmap : MapIs w mb M ks) (s : ByteArray) (hx : a.eval x = .string s) (hs : s.size ≤ maxLen)
    (hK : wpList P ops Q rest (a.put o.dst (kval (kof ks s))) w) : wpList P ops Q (o :: rest) a w := by
  subst hP
  refine wpList_plain hg fun K' hK' => ?_
  obtain ⟨D, n, h1, h2, h3, h4⟩ := hmap.at
  obtain ⟨v, ps, hrun, hv⟩ := h2.lookup Try.law9 Try.underlying40 (zero38 w) (kelem_mk kz) (keyL_of hs)
  rw [h4] at hv
  obtain rfl := kelem_inv hv
  unfold Oper.wp
  simp [execOp, hop, hm, hx, hrun, Result.andThen]
  exact hK' _ _ hK
/-- .. with 'ok'. -/
theorem wpList_look_kd_ok {P : Program} (w : World) {ops : Array Oper} {rest : List Oper} {o : Oper} {a : Act} {Q : Exit → Act → World → Prop}
    (hP : P = Try.prog) (hg : o.guard = none) (m x : Operand) (hop : o.op = Op.lookup 40 m x true) (mb M : Nat) (ks : List Kd) (hm : a.eval m = .map (some mb)) (hmap : MapIs w mb M ks) (s : ByteArray) (hx : a.eval x = .string s) (hs : s.size ≤ maxLen)
    (hK : wpList P ops Q rest (a.put o.dst (.tuple #[kval (kof ks s), .bool (decide (plc ks s < ks.length))])) w) : wpList P ops Q (o :: rest) a w := by
  subst hP
  refine wpList_plain hg fun K' hK' => ?_
  obtain ⟨D, n, h1, h2, h3, h4⟩ := hmap.at
  obtain ⟨v, ps, hrun, hv⟩ := h2.look_ok Try.law9 Try.underlying40 (zero38 w) (kelem_mk kz) (keyL_of hs)
  rw [h4] at hv
  rw [h3] at hrun
  obtain rfl := kelem_inv hv
  unfold Oper.wp
  simp [execOp, hop, hm, hx, hrun, Result.andThen]
  exact hK' _ _ hK
theorem plc_snoc (ks : List Kd) (k : Kd) (s : ByteArray) : plc (ks ++ [k]) s = if plc ks s < ks.length then plc ks s else if k.s = s then ks.length else ks.length + 1 := by
  induction ks with
  | nil => simp only [List.nil_append, plc, List.length_nil]; split <;> simp
  | cons x ks ih =>
    simp only [List.cons_append, plc, ih]
    by_cases h : x.s = s
    · simp [h]
    · simp only [h, if_false, List.length_cons, Nat.add_lt_add_iff_right]
      split
      · rfl
      · split <;> rfl
theorem plc_set (ks : List Kd) (i : Nat) (k : Kd) (s : ByteArray) (h : k.s = (kn ks i).s) : plc (ks.set i k) s = plc ks s := by
  induction ks generalizing i with
  | nil => rfl
  | cons x ks ih =>
    cases i with
    | zero =>
      have : k.s = x.s := by simpa [kn] using h
      simp only [List.set_cons_zero, plc, this]
    | succ i =>
      have := ih i (by simpa [kn] using h)
      simp only [List.set_cons_succ, plc, this]
theorem has_note (ks : List Kd) (s t : ByteArray) (n : Int) : (plc (noteK ks s n) t < (noteK ks s n).length) ↔ (t = s ∨ plc ks t < ks.length) := by
  have hle := plc_le ks t
  unfold noteK
  by_cases q : plc ks s < ks.length
  · rw [if_pos q, plc_set ks (plc ks s) (more (kn ks (plc ks s)) n) t rfl, List.length_set]
    constructor
    · exact .inr
    · rintro (rfl | h)
      · exact q
      · exact h
  · rw [if_neg q, plc_snoc, List.length_append, List.length_singleton]
    have e : (more ⟨s, 0, 0, 0⟩ n).s = s := rfl
    rw [e]
    by_cases q2 : plc ks t < ks.length
    · rw [if_pos q2]; exact ⟨fun _ => .inr q2, fun _ => by omega⟩
    · rw [if_neg q2]
      by_cases q3 : s = t
      · rw [if_pos q3]; exact ⟨fun _ => .inl q3.symm, fun _ => by omega⟩
      · rw [if_neg q3]; exact ⟨fun h => absurd h (Nat.lt_irrefl _), fun h => h.elim (fun h => absurd h.symm q3) (fun h => absurd h q2)⟩
theorem kof_note (ks : List Kd) (s t : ByteArray) (n : Int) : kof (noteK ks s n) t = if t = s then more (if plc ks s < ks.length then kof ks s else ⟨s, 0, 0, 0⟩) n else kof ks t := by
  by_cases q : plc ks s < ks.length
  · have e1 : noteK ks s n = ks.set (plc ks s) (more (kn ks (plc ks s)) n) := by unfold noteK; rw [if_pos q]
    rw [e1]
    unfold kof
    rw [plc_set ks (plc ks s) (more (kn ks (plc ks s)) n) t rfl, List.length_set, if_pos q, if_pos q]
    by_cases h : t = s
    · subst h; rw [if_pos q, if_pos rfl, kn_set _ _ _ _ q, if_pos rfl]
    · rw [if_neg h]
      by_cases q2 : plc ks t < ks.length
      · rw [if_pos q2, if_pos q2, kn_set _ _ _ _ q, if_neg]
        intro e
        exact h (by rw [← plc_at ks t q2, ← plc_at ks s q, e])
      · rw [if_neg q2, if_neg q2]
  · have e1 : noteK ks s n = ks ++ [more ⟨s, 0, 0, 0⟩ n] := by unfold noteK; rw [if_neg q]
    rw [e1]
    unfold kof
    have e : (more ⟨s, 0, 0, 0⟩ n).s = s := rfl
    rw [plc_snoc, List.length_append, List.length_singleton, if_neg q, e]
    by_cases h : t = s
    · subst h; rw [if_neg q, if_pos rfl, if_pos rfl, if_pos (by omega), kn_snoc, if_pos rfl]
    · rw [if_neg h]
      by_cases q2 : plc ks t < ks.length
      · rw [if_pos q2, if_pos (by omega), if_pos q2, kn_snoc, if_neg (by omega)]
      · rw [if_neg q2, if_neg (show ¬ s = t from fun e => h e.symm), if_neg (Nat.lt_irrefl _), if_neg q2]
/-- 't.kinds[s] = ..'. -/
theorem MapIs.noted {w w' : World} {mb m : Nat} {ks : List Kd} {s : ByteArray} {n : Int} {D : DataW Unit} {c : Nat} (hc : c ≤ m) (hown : w.ownsMap Try.prog 9 kelem mb c D) (hh : ∀ s, has D (keyL s) = decide (plc ks s < ks.length)) (hat : ∀ s, plc ks s < ks.length → ∀ z, D.atKey (keyL s) z = kdat (kof ks s))
    (h : w'.ownsMap Try.prog 9 kelem mb (c + 1) (D.put (keyL s) (kdat (kof (noteK ks s n) s)))) : MapIs w' mb (m + 1) (noteK ks s n) := by
  refine ⟨_, c + 1, by omega, h, fun t => ?_⟩
  by_cases e : t = s
  · subst e
    refine ⟨?_, fun _ z => atKey_put_same hown.isMap (keyL_key t) _ _⟩
    rw [has_put_same hown.isMap (keyL_key t), eq_comm, decide_eq_true_eq]
    exact (has_note ks t t n).2 (.inl rfl)
  · have hne : keyL t ≠ keyL s := fun q => e (keyL_inj q)
    refine ⟨?_, fun hp z => ?_⟩
    · rw [has_put_other hne, hh, Bool.eq_iff_iff, decide_eq_true_eq, decide_eq_true_eq, has_note]
      exact ⟨.inr, fun q => q.resolve_left e⟩
    · rw [atKey_put_other hne, hat t (((has_note ks s t n).1 hp).resolve_left e), kof_note, if_neg e]
theorem MapIs.kept {w w' : World} {mb m : Nat} {ks : List Kd} {row : Option Nat} (h : MapIs w mb m ks) (hg : w.grownBy w' row) (hne : some mb ≠ row) : MapIs w' mb m ks := by
  obtain ⟨D, n, h1, h2, h3⟩ := h
  exact ⟨D, n, h1, h2.kept hg hne, h3⟩
theorem MapIs.mono {w : World} {mb m m' : Nat} {ks : List Kd} (h : MapIs w mb m ks) (hm : m ≤ m') : MapIs w mb m' ks := by
  obtain ⟨D, n, h1, h2, h3⟩ := h
  exact ⟨D, n, by omega, h2, h3⟩
theorem MapIs.lt {w : World} {mb m : Nat} {ks : List Kd} (h : MapIs w mb m ks) : mb < w.heap.size := by
  obtain ⟨D, n, h1, h2, h3⟩ := h
  exact h2.lt
theorem MapIs.block {w w' : World} {mb m : Nat} {ks : List Kd} (h : MapIs w mb m ks) (he : w'.heap[mb]? = w.heap[mb]?) : MapIs w' mb m ks := by
  obtain ⟨D, n, h1, ⟨es, clock, hb, r⟩, h3⟩ := h
  exact ⟨D, n, h1, ⟨es, clock, he.trans hb, r⟩, h3⟩
end Go.Proofs.Ytcbdmaffcjdnbaa
