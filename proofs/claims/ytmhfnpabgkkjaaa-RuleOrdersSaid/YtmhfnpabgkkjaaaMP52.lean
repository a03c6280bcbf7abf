/- Own texts, merged: SF, SG. -/
import Derived.Test.YtmhfnpabgkkjaaaMP51
/- Walks: Eval, Holds. -/
namespace Go.Proofs.Ytmhfnpabgkkjaaa
open Go.RowKit Go.Shelf Ieee
attribute [local go_sem] run_store_float
/-- What Eval gives. -/
def evP (L : List Bnd) (t : Tree) : Av := if (tyP L t).2 = 0 then evT clN L t else av0
/-- What Holds gives. -/
def hoP (L : List Bnd) (l : Bs) : Bool × Nat :=
  if (parseP l).2 ≠ 0 then (false, (parseP l).2)
  else if (tyP L (parseP l).1).2 ≠ 0 then (false, (tyP L (parseP l).1).2)
  else if (evT clN L (parseP l).1).t ≠ 3 then (false, 1) else ((evT clN L (parseP l).1).b, 0)
/-- Binds that are few and short. -/
def BOk (L : List Bnd) : Prop := L.length ≤ 1000000 ∧ ∀ b ∈ L, b.v.s.length ≤ 900000
theorem tyP_ok {L : List Bnd} {t : Tree} (h : (tyP L t).2 = 0) : (tyT L t).2 = 0 := by
  unfold tyP at h
  split at h
  · cases h
  · exact h
set_option maxRecDepth 100000 in
set_option maxHeartbeats 8000000 in
theorem wEval (L : List Bnd) (hL : BOk L) (vb : Value) (t : Tree) (hz : szT t ≤ 1000000) (hx : txT 900000 t) (A : Nat → Prop) (v : Value) (m : Int) (w : World) (hv : NodeV A w v t) (hbv : BndV w vb L) (hm : MaxLn m w) :
    Calls Try.prog 9 #[v, vb] w fun e w' => ∃ u, e = .returned (.tuple #[u, .int .i64 ((tyP L t).2 : Nat)]) ∧ ValV u (evP L t) ∧ Below w.heap.size w w' := by
  have HTO := Lib.hid (fun W (h : NodeV A W v t) (k : BndV W vb L) => wtypeOf L hL.1 vb t A v W hz h k)
  have HEV := Lib.hid (fun (h0 : (tyT L t).2 = 0) W (h : NodeV A W v t) (k : BndV W vb L) (q : MaxLn m W) => weval L hL.1 hL.2 vb m _ t (Nat.le_refl _) h0 hx A v W h k q)
  have HV := Lib.hid hv
  have HBV := Lib.hid hbv
  obtain ⟨o, n, s, x, l, c, rfl⟩ := hv.agg
  obtain ⟨bx, bn, bc, rfl⟩ := hbv.agg
  have HEI := Lib.hid (EI.start hm o n s x l c)
  obtain ⟨R, hR⟩ : ∃ R, R = evP L t := ⟨_, rfl⟩
  rw [← hR]
  unfold evP at hR
  have HOK := Lib.hid (fun (h : (tyP L t).2 = 0) => tyP_ok h)
  obtain ⟨T, hT⟩ : ∃ T, T = tyP L t := ⟨_, rfl⟩
  rw [← hT] at hR HTO HOK ⊢
  obtain ⟨T1, T2⟩ := T
  simp only at hR
  have HR := Lib.hid hR
  clear hv hbv hz hx hm hL hR hT
  go_enter Try.func9, Try.ntmps9
  go_upto_region 1 with (fail)
  generalize ((w.alloc (.cells #[.string o, .float .f64 n, .string s, .slice x l c] 38)).alloc (.cells #[.int .i64 0, .float .f64 0, .string ⟨#[]⟩, .bool false] 25)) = W0 at HEI ⊢
  obtain ⟨p0, p1, p2, p3, _⟩ := HEI.out.node.cells
  have hlt := HEI.out.r.lt
  go_wp2_with (first | (go_at_call 14; fail))
  refine (HTO.out W0 (HV.out.below HEI.out.bel) (HBV.out.below HEI.out.bel)).mono ?_
  rintro e w2 ⟨rfl, hb2⟩
  have HEI2 := Lib.hid (HEI.out.below hb2)
  clear hb2 p0 p1 p2 p3 HEI HTO
  obtain ⟨p0, p1, p2, p3, _⟩ := HEI2.out.node.cells
  obtain ⟨k0, k1, k2, k3⟩ := HEI2.out.r.cells
  have hlt := HEI2.out.r.lt
  have f0 := HEI2.out.r.fr 0
  have f1 := HEI2.out.r.fr 1
  have f2 := HEI2.out.r.fr 2
  have f3 := HEI2.out.r.fr 3
  by_cases q : T2 = 0
  · have HM : Hid (R = evT clN L t) := Lib.hid (by rw [HR.out, if_pos q])
    have HEV1 := Lib.hid (HEV.out (HOK.out q))
    subst q
    clear HR HOK HEV
    go_wp2_with (first | (go_at_call 15; fail))
    go_at_call 15
    refine (HEV1.out w2 (HV.out.below HEI2.out.bel) (HBV.out.below HEI2.out.bel) HEI2.out.mx).mono ?_
    rintro e w5 ⟨hb5, v5, rfl, hv5⟩
    obtain ⟨hz, n5, rfl, hz2, hend⟩ := EI.fin HEI2.out HM.out hv5 hb5
    have HE := Lib.hid (And.intro hz2 hend)
    clear k0 k1 k2 k3 f0 f1 f2 f3
    obtain ⟨k0, k1, k2, k3⟩ := hz.cells
    have f0 := hz.fr 0
    have f1 := hz.fr 1
    have f2 := hz.fr 2
    have f3 := hz.fr 3
    clear hz hz2 hend hb5 hv5
    go_wp2
    refine bodyPost_ret (results_cell_tmp rfl _ _ (w.heap.size + 1) 25 _ _ _ rfl HE.out.1 Try.underlying25 rfl (by kernel_rfl)) rfl ?_
    obtain ⟨h1, u, h2, h3⟩ := HE.out.2
    cases h2
    exact ⟨_, rfl, h3, h1⟩
  · have HM : Hid (R = av0) := Lib.hid (by rw [HR.out, if_neg q])
    have q1 : ((T2 : Int) == 0) = false := by simpa using (show ¬ ((T2 : Int) = 0) by omega)
    have HE := Lib.hid (EI.put HEI2.out HM.out (n := 0) fA_zero 0 rfl ⟨#[]⟩ rfl false rfl (.cells #[] 0)).1
    clear HR HOK HEV
    go_wp2
    refine bodyPost_ret (results_cell_tmp rfl _ _ (w.heap.size + 1) 25 _ _ _ rfl HE.out.1 Try.underlying25 rfl (by kernel_rfl)) rfl ?_
    obtain ⟨h1, u, h2, h3⟩ := HE.out.2
    cases h2
    exact ⟨_, rfl, h3, h1⟩
set_option maxRecDepth 100000 in
set_option maxHeartbeats 8000000 in
theorem wHolds (L : List Bnd) (hL : BOk L) (vb : Value) (l : Bs) (hl : l.length ≤ 100000) (m : Int) (w : World) (hbv : BndV w vb L) (hm : MaxLn m w) :
    Calls Try.prog 4 #[.string (tx l), vb] w fun e w' => e = .returned (.tuple #[.bool (hoP L l).1, .int .i64 ((hoP L l).2 : Nat)]) ∧ Below w.heap.size w w' := by
  have HP := Lib.hid (wparse l (by omega) w)
  have HEV := Lib.hid (fun (A : Nat → Prop) v W (h : NodeV A W v (parseP l).1) (k : BndV W vb L) (q : MaxLn m W) => wEval L hL vb (parseP l).1 (by have := parse_sz l; omega) (tx_mono (by omega) _ (parse_tx l)) A v m W h k q)
  have HBV := Lib.hid hbv
  have HMX := Lib.hid hm
  obtain ⟨bx, bn, bc, rfl⟩ := hbv.agg
  obtain ⟨R, hR⟩ : ∃ R, R = hoP L l := ⟨_, rfl⟩
  rw [← hR]
  unfold hoP at hR
  unfold ParseEnd at HP
  unfold evP at HEV
  obtain ⟨T, hT⟩ : ∃ T, T = tyP L (parseP l).1 := ⟨_, rfl⟩
  rw [← hT] at hR HEV
  generalize evT clN L (parseP l).1 = E at hR HEV
  obtain ⟨Q, hQ⟩ : ∃ Q, Q = parseP l := ⟨_, rfl⟩
  rw [← hQ] at hR HP HEV
  obtain ⟨Q1, Q2⟩ := Q
  obtain ⟨T1, T2⟩ := T
  simp only at hR HP HEV
  have HR := Lib.hid hR
  clear hbv hm hL hl hR hT hQ
  go_enter Try.func4, Try.ntmps4
  go_wp2_with (first | (go_at_call 8; fail))
  go_at_call 8
  refine (HP.out).mono ?_
  rintro e w2 ⟨v2, rfl, hv2, hb2⟩
  obtain ⟨o, n, s, x, k, c, rfl⟩ := hv2.agg
  have hal : Below w2.heap.size w2 (w2.alloc (.cells #[.string o, .float .f64 n, .string s, .slice x k c] 38)) := (Below.refl _ _).alloc (Nat.le_refl _) _
  have HB3 := Lib.hid (hb2.trans (below_le hal hb2.size))
  have HN3 := Lib.hid (hv2.below hal)
  clear hb2 hv2 hal
  by_cases q : Q2 = 0
  · subst q
    have HR1 : Hid (R = if T2 ≠ 0 then (false, T2) else if E.t ≠ 3 then (false, 1) else (E.b, 0)) := Lib.hid (by rw [HR.out, if_neg (by simp)])
    clear HR
    go_wp2_with (first | (go_at_call 9; fail))
    go_at_call 9
    refine (HEV.out _ _ _ HN3.out (HBV.out.below HB3.out) (HMX.out.below HB3.out)).mono ?_
    rintro e w5 ⟨u, rfl, ⟨nu, rfl, hnu⟩, hb5⟩
    have HB5 := Lib.hid (HB3.out.trans (below_le hb5 HB3.out.size))
    clear hb5
    by_cases q2 : T2 = 0
    · subst q2
      simp only [if_pos]
      have HB6 := Lib.hid (fun c => HB5.out.alloc HB5.out.size c)
      by_cases q3 : E.t = 3
      · have HR2 : Hid (R = (E.b, 0)) := Lib.hid (by rw [HR1.out, if_neg (by simp), if_neg (by simp [q3])])
        rw [q3]
        go_wp2
        go_ret2
        exact ⟨by rw [HR2.out]; rfl, HB6.out _⟩
      · have HR2 : Hid (R = (false, 1)) := Lib.hid (by rw [HR1.out, if_neg (by simp), if_pos q3])
        have q4 : ((E.t : Int) == 3) = false := by simpa using (show ¬ ((E.t : Int) = 3) by omega)
        generalize E.t = et at q4 ⊢
        go_wp2
        go_ret2
        exact ⟨by rw [HR2.out]; rfl, HB6.out _⟩
    · have HR2 : Hid (R = (false, T2)) := Lib.hid (by rw [HR1.out, if_pos q2])
      have q4 : ((T2 : Int) == 0) = false := by simpa using (show ¬ ((T2 : Int) = 0) by omega)
      have HB6 := Lib.hid (fun c => HB5.out.alloc HB5.out.size c)
      generalize (if T2 = 0 then E else av0) = E2
      go_wp2
      go_ret2
      exact ⟨by rw [HR2.out]; rfl, HB6.out _⟩
  · have HR1 : Hid (R = (false, Q2)) := Lib.hid (by rw [HR.out, if_pos q])
    have q4 : ((Q2 : Int) == 0) = false := by simpa using (show ¬ ((Q2 : Int) = 0) by omega)
    go_wp2
    go_ret2
    exact ⟨by rw [HR1.out]; rfl, HB3.out⟩
end Go.Proofs.Ytmhfnpabgkkjaaa
/- The page's example: what it gives. -/
namespace Go.Proofs.Ytmhfnpabgkkjaaa
open Go.RowKit Go.Shelf
def exB : List Bnd := [⟨[120], ⟨2, 0, [98, 99, 100], false⟩⟩]
def ex1 : Bs := [108, 101, 110, 32, 120, 32, 62, 61, 32, 51]
def ex2 : Bs := [108, 101, 110, 40, 120, 41, 32, 62, 61, 32, 51, 32, 97, 110, 100, 32, 110, 111, 116, 32, 104, 97, 115, 40, 120, 44, 32, 39, 97, 39, 41]
def ex3 : Bs := [49, 32, 47, 32, 48, 32, 62, 32, 53]
def ex4 : Bs := [48, 32, 47, 32, 48, 32, 61, 32, 48, 32, 47, 32, 48]
set_option maxRecDepth 100000 in
theorem ex1_is : (parseP ex1).2 = 190 := by kernel_rfl
set_option maxRecDepth 100000 in
theorem ex2_is : hoP exB ex2 = (true, 0) := by kernel_rfl
set_option maxRecDepth 100000 in
theorem ex3_is : hoP [] ex3 = (true, 0) := by kernel_rfl
set_option maxRecDepth 100000 in
theorem ex4_is : hoP [] ex4 = (false, 0) := by kernel_rfl
end Go.Proofs.Ytmhfnpabgkkjaaa
