/- Own texts, merged: SF, SG, RL, RM. -/
import Derived.Test.YtmhfnpabgkkjaaaGreatMP22
import Derived.Test.YtmhfnpabgkkjaaaGreatMP30
import Derived.Test.YtmhfnpabgkkjaaaGreatMP35
/- Walks: Eval, Holds. -/
namespace Go.Proofs.YtmhfnpabgkkjaaaGreat
open Go.RowKit Go.Shelf Ieee
attribute [local go_sem] run_store_float
/-- What Eval gives. -/
def evP (L : List Bnd) (t : Tree) : Av := if (tyP L t).2 = 0 then evT clN L t else av0
/-- What Holds gives. -/
def hoP (L : List Bnd) (l : Bs) : Bool × Nat :=
  if (parseP l).2 ≠ 0 then (false, (parseP l).2)
  else if (tyP L (parseP l).1).2 ≠ 0 then (false, (tyP L (parseP l).1).2)
  else if (evT clN L (parseP l).1).t ≠ 3 then (false, 1) else ((evT clN L (parseP l).1).b, 0)
/-- Binds that are few and short. -/
def BOk (L : List Bnd) : Prop := L.length ≤ 1000000 ∧ ∀ b ∈ L, b.v.s.length ≤ 900000
theorem tyP_ok {L : List Bnd} {t : Tree} (h : (tyP L t).2 = 0) : (tyT L t).2 = 0 := by
  unfold tyP at h
  split at h
  · cases h
  · exact h
set_option maxRecDepth 100000 in
set_option maxHeartbeats 8000000 in
theorem wEval (L : List Bnd) (hL : BOk L) (vb : Value) (t : Tree) (hz : szT t ≤ 1000000) (hx : txT 900000 t) (A : Nat → Prop) (v : Value) (m : Int) (w : World) (hv : NodeV A w v t) (hbv : BndV w vb L) (hm : MaxLn m w) :
    Calls Tryz.prog 14 #[v, vb] w fun e w' => ∃ u, e = .returned (.tuple #[u, .int .i64 ((tyP L t).2 : Nat)]) ∧ ValV u (evP L t) ∧ Below w.heap.size w w' := by
  have HTO := Lib.hid (fun W (h : NodeV A W v t) (k : BndV W vb L) => wtypeOf L hL.1 vb t A v W hz h k)
  have HEV := Lib.hid (fun (h0 : (tyT L t).2 = 0) W (h : NodeV A W v t) (k : BndV W vb L) (q : MaxLn m W) => weval L hL.1 hL.2 vb m _ t (Nat.le_refl _) h0 hx A v W h k q)
  have HV := Lib.hid hv
  have HBV := Lib.hid hbv
  obtain ⟨o, n, s, x, l, c, rfl⟩ := hv.agg
  obtain ⟨bx, bn, bc, rfl⟩ := hbv.agg
  have HEI := Lib.hid (EI.start hm o n s x l c)
  obtain ⟨R, hR⟩ : ∃ R, R = evP L t := ⟨_, rfl⟩
  rw [← hR]
  unfold evP at hR
  have HOK := Lib.hid (fun (h : (tyP L t).2 = 0) => tyP_ok h)
  obtain ⟨T, hT⟩ : ∃ T, T = tyP L t := ⟨_, rfl⟩
  rw [← hT] at hR HTO HOK ⊢
  obtain ⟨T1, T2⟩ := T
  simp only at hR
  have HR := Lib.hid hR
  clear hv hbv hz hx hm hL hR hT
  go_enter Tryz.func14, Tryz.ntmps14
  go_upto_region 1 with (fail)
  generalize ((w.alloc (.cells #[.string o, .float .f64 n, .string s, .slice x l c] 26)).alloc (.cells #[.int .i64 0, .float .f64 0, .string ⟨#[]⟩, .bool false] 40)) = W0 at HEI ⊢
  obtain ⟨p0, p1, p2, p3, _⟩ := HEI.out.node.cells
  have hlt := HEI.out.r.lt
  go_wp2_with (first | (go_at_call 19; fail))
  refine (HTO.out W0 (HV.out.below HEI.out.bel) (HBV.out.below HEI.out.bel)).mono ?_
  rintro e w2 ⟨rfl, hb2⟩
  have HEI2 := Lib.hid (HEI.out.below hb2)
  clear hb2 p0 p1 p2 p3 HEI HTO
  obtain ⟨p0, p1, p2, p3, _⟩ := HEI2.out.node.cells
  obtain ⟨k0, k1, k2, k3⟩ := HEI2.out.r.cells
  have hlt := HEI2.out.r.lt
  have f0 := HEI2.out.r.fr 0
  have f1 := HEI2.out.r.fr 1
  have f2 := HEI2.out.r.fr 2
  have f3 := HEI2.out.r.fr 3
  by_cases q : T2 = 0
  · have HM : Hid (R = evT clN L t) := Lib.hid (by rw [HR.out, if_pos q])
    have HEV1 := Lib.hid (HEV.out (HOK.out q))
    subst q
    clear HR HOK HEV
    go_wp2_with (first | (go_at_call 24; fail))
    go_at_call 24
    refine (HEV1.out w2 (HV.out.below HEI2.out.bel) (HBV.out.below HEI2.out.bel) HEI2.out.mx).mono ?_
    rintro e w5 ⟨hb5, v5, rfl, hv5⟩
    obtain ⟨hz, n5, rfl, hz2, hend⟩ := EI.fin HEI2.out HM.out hv5 hb5
    have HE := Lib.hid (And.intro hz2 hend)
    clear k0 k1 k2 k3 f0 f1 f2 f3
    obtain ⟨k0, k1, k2, k3⟩ := hz.cells
    have f0 := hz.fr 0
    have f1 := hz.fr 1
    have f2 := hz.fr 2
    have f3 := hz.fr 3
    clear hz hz2 hend hb5 hv5
    go_wp2
    refine bodyPost_ret (results_cell_tmp rfl _ _ (w.heap.size + 1) 40 _ _ _ rfl HE.out.1 Tryz.underlying40 rfl (by kernel_rfl)) rfl ?_
    obtain ⟨h1, u, h2, h3⟩ := HE.out.2
    cases h2
    exact ⟨_, rfl, h3, h1⟩
  · have HM : Hid (R = av0) := Lib.hid (by rw [HR.out, if_neg q])
    have q1 : ((T2 : Int) == 0) = false := by simpa using (show ¬ ((T2 : Int) = 0) by omega)
    have HE := Lib.hid (EI.put HEI2.out HM.out (n := 0) fA_zero 0 rfl ⟨#[]⟩ rfl false rfl (.cells #[] 0)).1
    clear HR HOK HEV
    go_wp2
    refine bodyPost_ret (results_cell_tmp rfl _ _ (w.heap.size + 1) 40 _ _ _ rfl HE.out.1 Tryz.underlying40 rfl (by kernel_rfl)) rfl ?_
    obtain ⟨h1, u, h2, h3⟩ := HE.out.2
    cases h2
    exact ⟨_, rfl, h3, h1⟩
set_option maxRecDepth 100000 in
set_option maxHeartbeats 8000000 in
theorem wHolds (L : List Bnd) (hL : BOk L) (vb : Value) (l : Bs) (hl : l.length ≤ 100000) (m : Int) (w : World) (hbv : BndV w vb L) (hm : MaxLn m w) :
    Calls Tryz.prog 16 #[.string (tx l), vb] w fun e w' => e = .returned (.tuple #[.bool (hoP L l).1, .int .i64 ((hoP L l).2 : Nat)]) ∧ Below w.heap.size w w' := by
  have HP := Lib.hid (wparse l (by omega) w)
  have HEV := Lib.hid (fun (A : Nat → Prop) v W (h : NodeV A W v (parseP l).1) (k : BndV W vb L) (q : MaxLn m W) => wEval L hL vb (parseP l).1 (by have := parse_sz l; omega) (tx_mono (by omega) _ (parse_tx l)) A v m W h k q)
  have HBV := Lib.hid hbv
  have HMX := Lib.hid hm
  obtain ⟨bx, bn, bc, rfl⟩ := hbv.agg
  obtain ⟨R, hR⟩ : ∃ R, R = hoP L l := ⟨_, rfl⟩
  rw [← hR]
  unfold hoP at hR
  unfold ParseEnd at HP
  unfold evP at HEV
  obtain ⟨T, hT⟩ : ∃ T, T = tyP L (parseP l).1 := ⟨_, rfl⟩
  rw [← hT] at hR HEV
  generalize evT clN L (parseP l).1 = E at hR HEV
  obtain ⟨Q, hQ⟩ : ∃ Q, Q = parseP l := ⟨_, rfl⟩
  rw [← hQ] at hR HP HEV
  obtain ⟨Q1, Q2⟩ := Q
  obtain ⟨T1, T2⟩ := T
  simp only at hR HP HEV
  have HR := Lib.hid hR
  clear hbv hm hL hl hR hT hQ
  go_enter Tryz.func16, Tryz.ntmps16
  go_wp2_with (first | (go_at_call 6; fail))
  go_at_call 6
  refine (HP.out).mono ?_
  rintro e w2 ⟨v2, rfl, hv2, hb2⟩
  obtain ⟨o, n, s, x, k, c, rfl⟩ := hv2.agg
  have hal : Below w2.heap.size w2 (w2.alloc (.cells #[.string o, .float .f64 n, .string s, .slice x k c] 26)) := (Below.refl _ _).alloc (Nat.le_refl _) _
  have HB3 := Lib.hid (hb2.trans (below_le hal hb2.size))
  have HN3 := Lib.hid (hv2.below hal)
  clear hb2 hv2 hal
  by_cases q : Q2 = 0
  · subst q
    have HR1 : Hid (R = if T2 ≠ 0 then (false, T2) else if E.t ≠ 3 then (false, 1) else (E.b, 0)) := Lib.hid (by rw [HR.out, if_neg (by simp)])
    clear HR
    go_wp2_with (first | (go_at_call 14; fail))
    go_at_call 14
    refine (HEV.out _ _ _ HN3.out (HBV.out.below HB3.out) (HMX.out.below HB3.out)).mono ?_
    rintro e w5 ⟨u, rfl, ⟨nu, rfl, hnu⟩, hb5⟩
    have HB5 := Lib.hid (HB3.out.trans (below_le hb5 HB3.out.size))
    clear hb5
    by_cases q2 : T2 = 0
    · subst q2
      simp only [if_pos]
      have HB6 := Lib.hid (fun c => HB5.out.alloc HB5.out.size c)
      by_cases q3 : E.t = 3
      · have HR2 : Hid (R = (E.b, 0)) := Lib.hid (by rw [HR1.out, if_neg (by simp), if_neg (by simp [q3])])
        rw [q3]
        go_wp2
        go_ret2
        exact ⟨by rw [HR2.out]; rfl, HB6.out _⟩
      · have HR2 : Hid (R = (false, 1)) := Lib.hid (by rw [HR1.out, if_neg (by simp), if_pos q3])
        have q4 : ((E.t : Int) == 3) = false := by simpa using (show ¬ ((E.t : Int) = 3) by omega)
        generalize E.t = et at q4 ⊢
        go_wp2
        go_ret2
        exact ⟨by rw [HR2.out]; rfl, HB6.out _⟩
    · have HR2 : Hid (R = (false, T2)) := Lib.hid (by rw [HR1.out, if_pos q2])
      have q4 : ((T2 : Int) == 0) = false := by simpa using (show ¬ ((T2 : Int) = 0) by omega)
      have HB6 := Lib.hid (fun c => HB5.out.alloc HB5.out.size c)
      generalize (if T2 = 0 then E else av0) = E2
      go_wp2
      go_ret2
      exact ⟨by rw [HR2.out]; rfl, HB6.out _⟩
  · have HR1 : Hid (R = (false, Q2)) := Lib.hid (by rw [HR.out, if_pos q])
    have q4 : ((Q2 : Int) == 0) = false := by simpa using (show ¬ ((Q2 : Int) = 0) by omega)
    go_wp2
    go_ret2
    exact ⟨by rw [HR1.out]; rfl, HB3.out⟩
end Go.Proofs.YtmhfnpabgkkjaaaGreat
/- The page's example: what it gives. -/
namespace Go.Proofs.YtmhfnpabgkkjaaaGreat
open Go.RowKit Go.Shelf
def exB : List Bnd := [⟨[120], ⟨2, 0, [98, 99, 100], false⟩⟩]
def ex1 : Bs := [108, 101, 110, 32, 120, 32, 62, 61, 32, 51]
def ex2 : Bs := [108, 101, 110, 40, 120, 41, 32, 62, 61, 32, 51, 32, 97, 110, 100, 32, 110, 111, 116, 32, 104, 97, 115, 40, 120, 44, 32, 39, 97, 39, 41]
def ex3 : Bs := [49, 32, 47, 32, 48, 32, 62, 32, 53]
def ex4 : Bs := [48, 32, 47, 32, 48, 32, 61, 32, 48, 32, 47, 32, 48]
set_option maxRecDepth 100000 in
theorem ex1_is : (parseP ex1).2 = 190 := by kernel_rfl
set_option maxRecDepth 100000 in
theorem ex2_is : hoP exB ex2 = (true, 0) := by kernel_rfl
set_option maxRecDepth 100000 in
theorem ex3_is : hoP [] ex3 = (true, 0) := by kernel_rfl
set_option maxRecDepth 100000 in
theorem ex4_is : hoP [] ex4 = (false, 0) := by kernel_rfl
end Go.Proofs.YtmhfnpabgkkjaaaGreat
/- Walk: the reference's Parse. -/
namespace Go.Proofs.YtmhfnpabgkkjaaaGreat
open Go.RowKit Go.Shelf
attribute [local go_sem] run_store_float
theorem toksV_get : ∀ (L : List Tok) (i : Nat) (t : Tok), L[i]? = some t → (toksV L)[i * 2]? = some (.int .u8 (kd t.k)) ∧ (toksV L)[i * 2 + 1]? = some (.string (tx t.s))
  | [], i, t, h => by cases h
  | u :: r, 0, t, h => by
    cases h
    exact ⟨rfl, rfl⟩
  | u :: r, i + 1, t, h => by
    have e : toksV (u :: r) = Value.int .u8 (kd u.k) :: Value.string (tx u.s) :: toksV r := rfl
    rw [e, show (i + 1) * 2 = i * 2 + 1 + 1 by omega, show i * 2 + 1 + 1 + 1 = (i * 2 + 1) + 1 + 1 by omega, List.getElem?_cons_succ, List.getElem?_cons_succ, List.getElem?_cons_succ, List.getElem?_cons_succ]
    exact toksV_get r i t (by simpa using h)
theorem tokV_row {n0 : Nat} {w : World} {v : Value} {L : List Tok} (h : w.ownsRow n0 76 2 v L.length (toksV L)) : TokV w.heap.size w v L := by
  have hc := fun g (hg : v.ownBlock = some g) => h.cells hg
  have hl := h.lt
  rcases h.2 with ⟨rfl, h3⟩ | ⟨g, cap, cur, rfl, _, _, hcap, _⟩
  · have : L = [] := List.length_eq_zero_iff.1 h3
    subst this
    exact ⟨none, 0, rfl, Nat.le_refl _, fun _ => rfl, fun a ha => by cases ha⟩
  · refine ⟨some ⟨g, 0, none⟩, cap, rfl, hcap, (fun e => by cases e), fun a ha i t hi => ?_⟩
    cases ha
    obtain ⟨h1, h2⟩ := toksV_get L i t hi
    exact ⟨(hl g rfl).2, hc g rfl _ _ h1, hc g rfl _ _ h2⟩
/-- Why a text is no rule, or its tree. -/
theorem parse_fault {l : Bs} (h : (lex l).2 = false) : readP l = none := by
  unfold readP
  by_cases q : (lex l).1 = []
  · rw [if_pos ⟨q, h⟩]
  · rw [if_neg (fun e => q e.1)]
    have hp := fun a r => P_len valV (lex l).2 (12 * (lex l).1.length + 11) .or (lex l).1 a r
    cases hx : P valV (lex l).2 (12 * (lex l).1.length + 11) .or (lex l).1 with
    | none => rfl
    | some x =>
      obtain ⟨t, r⟩ := x
      have := (hp t r hx).2.2 (fun _ => q) h
      cases r with
      | nil => exact absurd rfl this
      | cons _ _ => rfl
theorem parse_read {l : Bs} (h : (lex l).2 = true) : readP l = match P valV true (12 * (lex l).1.length + 11) .or (lex l).1 with
    | some (t, []) => some t
    | _ => none := by
  unfold readP
  rw [if_neg (fun e => by rw [h] at e; cases e.2), h]
  rfl
theorem lex_ok (l : Bs) : KOk (lex l).1 := lexF_ok _ l
set_option maxRecDepth 100000 in
set_option maxHeartbeats 8000000 in
theorem rparse (l : Bs) (hl : l.length ≤ 1000000) (w : World) : Calls Tryz.prog 7 #[.string (tx l)] w (ParseEnd l w) := by
  have HS := Lib.hid (tx_size' l)
  have HPC := Lib.hid (fun W => rpieces l hl W)
  have HL := Lib.hid hl
  obtain ⟨pr, hpr⟩ : ∃ x, x = parseP l := ⟨_, rfl⟩
  have HP := Lib.hid hpr
  unfold parseP at HP
  by_cases q : 256 < l.length
  · have q2 : 256 < ((tx l).size : Int) := by have := HS.out; omega
    rw [if_pos q] at HP
    have HE : Hid (∀ e w', (∃ v, e = .returned (.tuple #[v, .int .i64 (2 : Nat)]) ∧ NodeV (fun b => w.heap.size ≤ b) w' v zeroT ∧ Below w.heap.size w w') → ParseEnd l w e w') := Lib.hid (fun e w' h => by
      unfold ParseEnd; rw [← hpr, HP.out]; exact h)
    clear hpr q hl
    go_enter Tryz.func7, Tryz.ntmps7
    go_wp2
    refine bodyPost_ret (results_cell_tmp rfl _ _ w.heap.size 26 _ _ _ rfl (heap_alloc_new w _) Tryz.underlying26 rfl (by kernel_rfl)) rfl (HE.out _ _ ?_)
    exact ⟨_, rfl, NodeV.zero _ _, (Below.refl _ _).alloc (Nat.le_refl _) _⟩
  · have q2 : ¬ 256 < ((tx l).size : Int) := by have := HS.out; omega
    rw [if_neg q] at HP
    have HSZ : Hid (∀ t, readP l = some t → szT t ≤ 1000000 ∧ depT t ≤ 1000000) := Lib.hid (fun t h => by
      have h1 := readP_sz h
      have h2 := dep_sz t
      have h3 := HL.out
      omega)
    have HE190 : Hid (pr = (zeroT, 190) → ∀ e w', (∃ v, e = .returned (.tuple #[v, .int .i64 (190 : Nat)]) ∧ NodeV (fun b => w.heap.size ≤ b) w' v zeroT ∧ Below w.heap.size w w') → ParseEnd l w e w') := Lib.hid (fun h0 e w' h => by
      unfold ParseEnd; rw [← hpr, h0]; exact h)
    have HE0 : Hid (∀ t, pr = (t, 0) → ∀ e w', (∃ v, e = .returned (.tuple #[v, .int .i64 (0 : Nat)]) ∧ NodeV (fun b => w.heap.size ≤ b) w' v t ∧ Below w.heap.size w w') → ParseEnd l w e w') := Lib.hid (fun t h0 e w' h => by
      unfold ParseEnd; rw [← hpr, h0]; exact h)
    have HZ0 : Hid (NB (w.alloc (.cells #[.string ⟨#[]⟩, .float .f64 0, .string ⟨#[]⟩, .slice none 0 0] 26)) w.heap.size zeroN) := Lib.hid ⟨_, _, _, _, rfl, heap_alloc_new _ _⟩
    have HB0 := Lib.hid (bel1 w (.cells #[.string ⟨#[]⟩, .float .f64 0, .string ⟨#[]⟩, .slice none 0 0] 26))
    clear q hl hpr
    go_enter Tryz.func7, Tryz.ntmps7
    go_wp2_with (first | (go_at_call 21; fail))
    generalize w.alloc (.cells #[.string ⟨#[]⟩, .float .f64 0, .string ⟨#[]⟩, .slice none 0 0] 26) = W0 at HZ0 HB0 ⊢
    go_at_call 21
    refine (HPC.out _).mono ?_
    rintro e w3 ⟨hb3, ⟨h1, rfl⟩ | ⟨h1, v3, rfl, hrow⟩⟩
    · have HPR : Hid (pr = (zeroT, 190)) := Lib.hid (by rw [HP.out, parse_fault h1])
      have HZ := Lib.hid (HZ0.out.below hb3)
      have HB := Lib.hid (HB0.out.trans (below_le hb3 HB0.out.size))
      obtain ⟨b0, b1, b2, b3, bf⟩ := HZ.out.cells
      have f0 := bf 0
      have f1 := bf 1
      have f2 := bf 2
      have f3 := bf 3
      clear bf hb3 h1 HP
      go_wp2
      have hz2 := HZ.out.put (v0 := .string ⟨#[]⟩) (v1 := .float .f64 0) (v2 := .string ⟨#[]⟩) (v3 := .slice none 0 0)
      refine bodyPost_ret (results_cell_tmp rfl _ _ w.heap.size 26 _ _ _ rfl hz2.heap Tryz.underlying26 rfl (by kernel_rfl)) rfl (HE190.out HPR.out _ _ ?_)
      exact ⟨_, rfl, NodeV.zero _ _, below_put HB.out (Nat.le_refl _)⟩
    · have HZ3 := Lib.hid (HZ0.out.below hb3)
      have HB3 := Lib.hid (HB0.out.trans (below_le hb3 HB0.out.size))
      have htk := tokV_row hrow
      have hlen : (lex l).1.length ≤ l.length := lexF_len _ _
      have HRW := Lib.hid (rread w3.heap.size (lex l).1 v3 w3 _ (Nat.le_refl _) (by have := HL.out; omega) (Nat.le_refl _) (lex_ok l) htk)
      have HPR := Lib.hid (parse_read h1)
      obtain ⟨res, hres⟩ : ∃ y, y = P valV true (12 * (lex l).1.length + 11) .or (lex l).1 := ⟨_, rfl⟩
      rw [← hres] at HRW HPR
      obtain ⟨x3, n3, c3, rfl⟩ := htk.agg
      clear hb3 hrow h1 htk hlen hres HPC
      go_wp2_with (first | (go_at_call 22; fail))
      go_at_call 22
      refine (HRW.out).mono ?_
      rintro e w5 ⟨hb5, v5, rfl, o5, n5, s5, x5, l5, c5, y5, m5, d5, bad5, t5, rfl, hnode5, hcase5⟩
      have hal5 : Below w5.heap.size w5 (w5.alloc (.cells #[.string o5, .float .f64 n5, .string s5, .slice x5 l5 c5, .slice y5 m5 d5, .bool bad5] 59)) := (Below.refl _ _).alloc (Nat.le_refl _) _
      have hlt3 := HZ3.out.lt
      have hsz5 := hb5.size
      have HZ7 := Lib.hid ((HZ3.out.below hb5).below hal5)
      have HB7 := Lib.hid ((HB3.out.trans (below_le hb5 HB3.out.size)).trans (below_le hal5 (by omega)))
      have HG7 : Hid (RB (w5.alloc (.cells #[.string o5, .float .f64 n5, .string s5, .slice x5 l5 c5, .slice y5 m5 d5, .bool bad5] 59)) w5.heap.size _ _ _ _ _ _) := Lib.hid (heap_alloc_new _ _)
      have HN7 := Lib.hid ((hnode5.sub (B := fun b => w.heap.size ≤ b ∧ b ≠ w.heap.size) (fun b h1 _ => by have h3 : w3.heap.size ≤ b := h1; show _ ∧ _; omega)).below hal5)
      have hlt5 : w.heap.size < w5.heap.size := by omega
      have hcases : (bad5 = true ∧ readP l = none) ∨ (bad5 = false ∧ 0 < m5 ∧ readP l = none) ∨ (bad5 = false ∧ m5 = 0 ∧ readP l = some t5) := by
        rcases hcase5 with ⟨h1, h2⟩ | ⟨h1, ts, h2, ⟨x', cap', hv', _⟩, _⟩
        · exact .inl ⟨h1, by rw [HPR.out, h2]⟩
        · cases hv'
          cases ts with
          | nil => exact .inr (.inr ⟨h1, rfl, by rw [HPR.out, h2]⟩)
          | cons t r => exact .inr (.inl ⟨h1, by simp, by rw [HPR.out, h2]⟩)
      clear hcase5 hnode5 hal5 hb5 HZ3 HB3 HRW HPR
      go_upto_region 7 with (fail)
      generalize (w5.alloc (.cells #[.string o5, .float .f64 n5, .string s5, .slice x5 l5 c5, .slice y5 m5 d5, .bool bad5] 59)) = W7 at *
      generalize w5.heap.size = g7 at *
      obtain ⟨e0, e1, e2, e3, e4, e5⟩ := HG7.out.cells
      have hg7 := HG7.out.lt
      rcases hcases with ⟨rfl, h2⟩ | ⟨rfl, h2, h3⟩ | ⟨rfl, h2, h3⟩
      · have HPR : Hid (pr = (zeroT, 190)) := Lib.hid (by rw [HP.out, h2])
        clear h2 HP
        obtain ⟨b0, b1, b2, b3, bf⟩ := HZ7.out.cells
        have f0 := bf 0
        have f1 := bf 1
        have f2 := bf 2
        have f3 := bf 3
        clear bf
        go_wp2
        have hz2 := HZ7.out.put (v0 := .string ⟨#[]⟩) (v1 := .float .f64 0) (v2 := .string ⟨#[]⟩) (v3 := .slice none 0 0)
        refine bodyPost_ret (results_cell_tmp rfl _ _ w.heap.size 26 _ _ _ rfl hz2.heap Tryz.underlying26 rfl (by kernel_rfl)) rfl (HE190.out HPR.out _ _ ?_)
        exact ⟨_, rfl, NodeV.zero _ _, below_put HB7.out (Nat.le_refl _)⟩
      · have HPR : Hid (pr = (zeroT, 190)) := Lib.hid (by rw [HP.out, h3])
        have hm : 0 < (m5 : Int) := by omega
        clear h2 h3 HP
        obtain ⟨b0, b1, b2, b3, bf⟩ := HZ7.out.cells
        have f0 := bf 0
        have f1 := bf 1
        have f2 := bf 2
        have f3 := bf 3
        clear bf
        go_wp2
        have hz2 := HZ7.out.put (v0 := .string ⟨#[]⟩) (v1 := .float .f64 0) (v2 := .string ⟨#[]⟩) (v3 := .slice none 0 0)
        refine bodyPost_ret (results_cell_tmp rfl _ _ w.heap.size 26 _ _ _ rfl hz2.heap Tryz.underlying26 rfl (by kernel_rfl)) rfl (HE190.out HPR.out _ _ ?_)
        exact ⟨_, rfl, NodeV.zero _ _, below_put HB7.out (Nat.le_refl _)⟩
      · subst h2
        have HP2 : Hid (pr = if 16 < depT t5 then (zeroT, 190) else (t5, 0)) := Lib.hid (by rw [HP.out, h3])
        have HSZ2 := Lib.hid (HSZ.out t5 h3)
        have HDP : Hid (∀ W, NodeV (fun b => w.heap.size ≤ b ∧ b ≠ w.heap.size) W (.agg #[.string o5, .float .f64 n5, .string s5, .slice x5 l5 c5]) t5 → Calls Tryz.prog 10 #[.agg #[.string o5, .float .f64 n5, .string s5, .slice x5 l5 c5]] W fun e w' => e = .returned (.int .i64 (depT t5)) ∧ Below W.heap.size W w') :=
          Lib.hid (fun W h => rdepth _ t5 (Nat.le_refl _) _ _ W HSZ2.out.1 h)
        obtain ⟨D, hD⟩ : ∃ D, D = depT t5 := ⟨_, rfl⟩
        rw [← hD] at HDP HP2 HSZ2
        have hdl : D ≤ 1000000 := HSZ2.out.2
        clear h3 HP hD
        go_wp2_with (first | (go_at_call 10; fail))
        refine (HDP.out _ HN7.out).mono ?_
        rintro e w8 ⟨rfl, hb8⟩
        have HZ8 := Lib.hid (HZ7.out.below hb8)
        have HN8 := Lib.hid (HN7.out.below hb8)
        have HB8 := Lib.hid (HB7.out.trans (below_le hb8 HB7.out.size))
        obtain ⟨e0, e1, e2, e3, e4, e5⟩ := (HG7.out.below hb8).cells
        have hg8 := hb8.size
        clear hb8 HN7 HB7 HDP HSZ2
        obtain ⟨b0, b1, b2, b3, bf⟩ := HZ8.out.cells
        have f0 := bf 0
        have f1 := bf 1
        have f2 := bf 2
        have f3 := bf 3
        clear bf
        by_cases q16 : 16 < D
        · have HPR : Hid (pr = (zeroT, 190)) := Lib.hid (by rw [HP2.out, if_pos q16])
          go_wp2
          have hz2 := HZ8.out.put (v0 := .string ⟨#[]⟩) (v1 := .float .f64 0) (v2 := .string ⟨#[]⟩) (v3 := .slice none 0 0)
          refine bodyPost_ret (results_cell_tmp rfl _ _ w.heap.size 26 _ _ _ rfl hz2.heap Tryz.underlying26 rfl (by kernel_rfl)) rfl (HE190.out HPR.out _ _ ?_)
          exact ⟨_, rfl, NodeV.zero _ _, below_put HB8.out (Nat.le_refl _)⟩
        · have HPR : Hid (pr = (t5, 0)) := Lib.hid (by rw [HP2.out, if_neg q16])
          go_wp2
          have hz2 := HZ8.out.put (v0 := .string o5) (v1 := .float .f64 n5) (v2 := .string s5) (v3 := .slice x5 l5 c5)
          refine bodyPost_ret (results_cell_tmp rfl _ _ w.heap.size 26 _ _ _ rfl hz2.heap Tryz.underlying26 rfl (by kernel_rfl)) rfl (HE0.out t5 HPR.out _ _ ?_)
          exact ⟨_, rfl, NodeV.kept (by rw [putN_size]; exact Nat.le_refl _) (fun b h1 _ => ⟨h1.1, putN_other h1.2⟩) t5 _ HN8.out, below_put HB8.out (Nat.le_refl _)⟩
end Go.Proofs.YtmhfnpabgkkjaaaGreat
/- Walks: the reference's num, sign, Same. -/
namespace Go.Proofs.YtmhfnpabgkkjaaaGreat
open Go.RowKit Go.Shelf Ieee
attribute [local go_sem] run_store_float
def oneB : Nat := 4607182418800017408
/-- Is a number that is 0 below 0: what 1 / x says. -/
def sgN (x : Nat) : Bool := match double.div oneB x with
  | some r => double.order r 0 == some .lt
  | none => false
def sameN (x y : Nat) : Bool :=
  if isNan x = true ∨ isNan y = true then isNan x && isNan y
  else (double.order x y == some .eq) && (!(double.order x 0 == some .eq) || sgN x == sgN y)
def sameV (a b : Vl) : Bool := if a.t ≠ b.t then false else if a.t = 1 then sameN a.n b.n else if a.t = 2 then decide (a.s = b.s) else if a.t = 3 then a.b == b.b else true
def vlV (a : Vl) : Value := .agg #[.int .i64 a.t, .float .f64 a.n, .string (tx a.s), .bool a.b]
theorem below_drewN {n : Nat} {a w : World} (h : Below n a w) (k : Nat) : Below n a (w.drewN k) := h.trans ⟨rfl, rfl, rfl, Nat.le_refl _, fun _ _ => rfl⟩
theorem order_self {x : Nat} (h : isNan x = false) : double.order x x = some .eq := by
  rw [order_val x x h h]
  simp [compare, compareOfLessAndEq]
theorem sameN_self (x : Nat) : sameN x x = true := by
  unfold sameN
  cases h : isNan x
  · rw [if_neg (by simp), order_self h]
    simp
  · rw [if_pos (.inl rfl)]; rfl
theorem sameN_fA {x y : Nat} (h : fA x = fA y) : sameN x y = true := by
  cases hx : isNan x
  · rw [fA_num hx] at h
    have hy : isNan y = false := by
      cases hy : isNan y
      · rfl
      · rw [fA_nan hy] at h; cases h
    rw [fA_num hy] at h
    cases h
    exact sameN_self x
  · rw [fA_nan hx] at h
    have hy : isNan y = true := by
      cases hy : isNan y
      · rw [fA_num hy] at h; cases h
      · rfl
    unfold sameN
    rw [if_pos (.inl hx), hx, hy]
    rfl
theorem div_one {x : Nat} (h : isNan x = false) : ∃ r, double.div oneB x = some r := by
  obtain ⟨m, i, hm, h1⟩ : ∃ m i, m ≠ 0 ∧ double.read oneB = .number (isNeg oneB) m i := by
    obtain ⟨m, i, h1, _, h2⟩ := read_fin oneB (by decide)
    refine ⟨m, i, fun e => ?_, h1⟩
    rw [e, Nat.zero_mul, ← valN_zero] at h2
    exact absurd (valN_inj h2) (by decide)
  unfold Format.div
  rw [h1]
  rcases read_num x h with ⟨n, j, q⟩ | q
  · rw [q]
    unfold Datum.quotient
    by_cases hn : n = 0
    · simp [hn, hm]
    · simp [hn]
  · rw [q]
    exact ⟨_, rfl⟩
set_option maxHeartbeats 1000000 in
theorem rnum (n : Nat) (w : World) : Calls Tryz.prog 23 #[.float .f64 n] w fun e w' => e = .returned (.agg #[.int .i64 1, .float .f64 n, .string ⟨#[]⟩, .bool false]) ∧ Below w.heap.size w w' := by
  go_enter Tryz.func23, Tryz.ntmps23
  go_wp2
  refine bodyPost_ret (val_res rfl _ _ w.heap.size _ _ _ _ rfl (heap_alloc_new _ _)) rfl ?_
  exact ⟨rfl, (Below.refl _ _).alloc (Nat.le_refl _) _⟩
set_option maxHeartbeats 1000000 in
theorem rsign (x : Nat) (h : isNan x = false) (w : World) : Calls Tryz.prog 27 #[.float .f64 x] w fun e w' => e = .returned (.bool (sgN x)) ∧ w = w' := by
  obtain ⟨r, hr⟩ := div_one h
  have hV : ∀ W, (binOp BinOp.quo 23 (.float .f64 4607182418800017408) (.float .f64 x)).run Tryz.prog W = .ok (.float .f64 r) W := fun W => run_float_arith W .quo 23 .f64 _ _ _ hr
  have HE : Hid ((FloatKind.f64.format.order r 0 == some .lt) = sgN x) := Lib.hid (by unfold sgN; rw [hr]; rfl)
  clear h hr
  go_enter Tryz.func27, Tryz.ntmps27
  go_wp2
  go_ret
  exact ⟨ret_bool HE.out, rfl⟩
set_option maxRecDepth 100000 in
set_option maxHeartbeats 8000000 in
theorem rSame (a b : Vl) (w : World) : Calls Tryz.prog 18 #[vlV a, vlV b] w fun e w' => e = .returned (.bool (sameV a b)) ∧ Below w.heap.size w w' := by
  obtain ⟨ta, na, sa, ba⟩ := a
  obtain ⟨tb, nb, sb, bb⟩ := b
  have HAL := Lib.hid (fun o1 o2 => ((Below.refl w.heap.size w).alloc (Nat.le_refl _) o1).alloc (by simp) o2)
  show Calls Tryz.prog 18 #[.agg #[.int .i64 ta, .float .f64 na, .string (tx sa), .bool ba], .agg #[.int .i64 tb, .float .f64 nb, .string (tx sb), .bool bb]] w _
  obtain ⟨R, hR⟩ : ∃ R, R = sameV ⟨ta, na, sa, ba⟩ ⟨tb, nb, sb, bb⟩ := ⟨_, rfl⟩
  rw [← hR]
  unfold sameV at hR
  simp only at hR
  by_cases ht : ta = tb
  · subst ht
    rw [if_neg (by simp)] at hR
    by_cases t1 : ta = 1
    · subst t1
      rw [if_pos rfl] at hR
      unfold sameN at hR
      cases hx : isNan na
      · have o1 : (FloatKind.f64.format.order na na != some .eq) = false := by rw [show FloatKind.f64.format = double from rfl, order_self hx]; rfl
        cases hy : isNan nb
        · have o2 : (FloatKind.f64.format.order nb nb != some .eq) = false := by rw [show FloatKind.f64.format = double from rfl, order_self hy]; rfl
          rw [if_neg (by simp [hx, hy])] at hR
          cases o3 : (FloatKind.f64.format.order na nb == some .eq)
          · have HR : Hid (R = false) := Lib.hid (by rw [hR, show (double.order na nb == some .eq) = false from o3]; rfl)
            clear hR hx hy
            go_enter Tryz.func18, Tryz.ntmps18
            go_wp2
            go_quiet (fail)
            go_wp2
            go_ret
            exact ⟨ret_bool HR.out.symm, below_drewN (HAL.out _ _) _⟩
          · cases o4 : (FloatKind.f64.format.order na 0 == some .eq)
            · have HR : Hid (R = true) := Lib.hid (by rw [hR, show (double.order na nb == some .eq) = true from o3, show (double.order na 0 == some .eq) = false from o4]; rfl)
              have o5 : (FloatKind.f64.format.order na 0 != some .eq) = true := by simp only [bne, o4]; rfl
              clear hR hx hy
              go_enter Tryz.func18, Tryz.ntmps18
              go_wp2
              go_quiet (fail)
              go_wp2
              go_ret
              exact ⟨ret_bool HR.out.symm, below_drewN (HAL.out _ _) _⟩
            · have HR : Hid (R = (sgN na == sgN nb)) := Lib.hid (by rw [hR, show (double.order na nb == some .eq) = true from o3, show (double.order na 0 == some .eq) = true from o4]; rfl)
              have o5 : (FloatKind.f64.format.order na 0 != some .eq) = false := by simp only [bne, o4]; rfl
              have HSA := Lib.hid (fun W => rsign na hx W)
              have HSB := Lib.hid (fun W => rsign nb hy W)
              clear hR hx hy
              go_enter Tryz.func18, Tryz.ntmps18
              go_wp2
              go_quiet ((first | (go_at_call 27; exact quiet_eq (HSA.out _)) | (go_at_call 27; exact quiet_eq (HSB.out _))))
              go_wp2
              go_ret
              exact ⟨ret_bool HR.out.symm, below_drewN (HAL.out _ _) _⟩
        · have o2 : (FloatKind.f64.format.order nb nb != some .eq) = true := by rw [show FloatKind.f64.format = double from rfl, order_nan nb nb (.inl hy)]; rfl
          rw [if_pos (.inr hy), hx] at hR
          have HR : Hid (R = false) := Lib.hid hR
          clear hR hx hy
          go_enter Tryz.func18, Tryz.ntmps18
          go_wp2
          go_ret
          exact ⟨ret_bool HR.out.symm, HAL.out _ _⟩
      · have o1 : (FloatKind.f64.format.order na na != some .eq) = true := by rw [show FloatKind.f64.format = double from rfl, order_nan na na (.inl hx)]; rfl
        rw [if_pos (.inl hx), hx] at hR
        cases hy : isNan nb
        · have o2 : (FloatKind.f64.format.order nb nb != some .eq) = false := by rw [show FloatKind.f64.format = double from rfl, order_self hy]; rfl
          have HR : Hid (R = false) := Lib.hid (by rw [hR, hy]; rfl)
          clear hR hx hy
          go_enter Tryz.func18, Tryz.ntmps18
          go_wp2
          go_ret
          exact ⟨ret_bool HR.out.symm, HAL.out _ _⟩
        · have o2 : (FloatKind.f64.format.order nb nb != some .eq) = true := by rw [show FloatKind.f64.format = double from rfl, order_nan nb nb (.inl hy)]; rfl
          have HR : Hid (R = true) := Lib.hid (by rw [hR, hy]; rfl)
          clear hR hx hy
          go_enter Tryz.func18, Tryz.ntmps18
          go_wp2
          go_ret
          exact ⟨ret_bool HR.out.symm, HAL.out _ _⟩
    · rw [if_neg t1] at hR
      have i1 : (ta == 1) = false := by simpa using t1
      by_cases t2 : ta = 2
      · subst t2
        rw [if_pos rfl] at hR
        have HR : Hid (R = ((tx sa).toList == (tx sb).toList)) := Lib.hid (by rw [hR, tx_toList, tx_toList]; by_cases e : sa = sb <;> simp [e])
        clear hR
        go_enter Tryz.func18, Tryz.ntmps18
        go_wp2
        go_ret
        exact ⟨ret_bool HR.out.symm, HAL.out _ _⟩
      · rw [if_neg t2] at hR
        have i2 : (ta == 2) = false := by simpa using t2
        by_cases t3 : ta = 3
        · subst t3
          rw [if_pos rfl] at hR
          have HR : Hid (R = (ba == bb)) := Lib.hid hR
          clear hR
          go_enter Tryz.func18, Tryz.ntmps18
          go_wp2
          go_ret
          exact ⟨ret_bool HR.out.symm, HAL.out _ _⟩
        · rw [if_neg t3] at hR
          have i3 : (ta == 3) = false := by simpa using t3
          have HR : Hid (R = true) := Lib.hid hR
          clear hR
          go_enter Tryz.func18, Tryz.ntmps18
          go_wp2
          go_ret
          exact ⟨ret_bool HR.out.symm, HAL.out _ _⟩
  · rw [if_pos ht] at hR
    have i1 : (ta != tb) = true := by simpa using ht
    have HR : Hid (R = false) := Lib.hid hR
    clear hR
    go_enter Tryz.func18, Tryz.ntmps18
    go_wp2
    go_ret
    exact ⟨ret_bool HR.out.symm, HAL.out _ _⟩
end Go.Proofs.YtmhfnpabgkkjaaaGreat
