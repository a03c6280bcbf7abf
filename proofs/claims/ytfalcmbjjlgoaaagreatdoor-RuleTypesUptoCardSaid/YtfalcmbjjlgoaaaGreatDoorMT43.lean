/- Own texts, merged: W2, W3, V3. -/
import Derived.Deep.RegionHeld3
import Derived.Test.YtfalcmbjjlgoaaaGreatDoorH9
import Derived.Test.YtfalcmbjjlgoaaaGreatDoorMT17
import Derived.Test.YtfalcmbjjlgoaaaGreatDoorMT38
import Derived.Test.YtfalcmbjjlgoaaaGreatDoorMT41
import Derived.Test.YtfalcmbjjlgoaaaGreatDoorMT42
/- Walks: the reference's Print (printed by gen_w2.py). -/
namespace Go.Proofs.YtfalcmbjjlgoaaaGreatDoor
open Go.RowKit Go.Shelf Ieee Go.Lib
attribute [local go_sem] run_store_float
set_option maxRecDepth 100000 in
set_option maxHeartbeats 8000000 in
theorem rpr_bad (op s : Bs) (fn : Nat) (x : Option Addr) (N cap : Nat) (w : World) 
    (tk : Int) (hne : (tk != (N : Int)) = true) (HTK : Hid (∀ W, Calls Tryz.prog 33 #[.string (tx op)] W fun e w' => e = .returned (.int .i64 tk) ∧ W = w')) :
    Calls Tryz.prog 20 #[.agg #[.string (tx op), .float .f64 fn, .string (tx s), .slice x N cap]] w fun e w' => e = .returned (.string (tx [48])) ∧ Below w.heap.size w w' := by
  have HB2 := Lib.hid (bel1 w (.cells #[.string (tx op), .float .f64 fn, .string (tx s), .slice x N cap] 25))
  have HNB2 : Hid (NB (w.alloc (.cells #[.string (tx op), .float .f64 fn, .string (tx s), .slice x N cap] 25)) w.heap.size (.agg #[.string (tx op), .float .f64 fn, .string (tx s), .slice x N cap])) := Lib.hid ⟨_, _, _, _, rfl, heap_alloc_new _ _⟩
  go_enter Tryz.func20, Tryz.ntmps20
  go_upto_region 1 with (fail)
  generalize w.alloc (.cells #[.string (tx op), .float .f64 fn, .string (tx s), .slice x N cap] 25) = w2 at HB2 HNB2 ⊢
  obtain ⟨p0, p1, p2, p3, _⟩ := HNB2.out.cells
  have hlt := HNB2.out.lt
  go_wp2_with (first | (go_at_call 33; refine (HTK.out _).mono ?_; rintro e w1 ⟨rfl, rfl⟩))
  go_ret
  exact ⟨rfl, HB2.out⟩
set_option maxRecDepth 100000 in
set_option maxHeartbeats 8000000 in
theorem rpr_num (op s : Bs) (fn : Nat) (x : Option Addr) (N cap : Nat) (w : World) (hwnum : op = wnum)
    (tk : Int) (hne : (tk != (N : Int)) = false) (HTK : Hid (∀ W, Calls Tryz.prog 33 #[.string (tx op)] W fun e w' => e = .returned (.int .i64 tk) ∧ W = w')) :
    Calls Tryz.prog 20 #[.agg #[.string (tx op), .float .f64 fn, .string (tx s), .slice x N cap]] w fun e w' => e = .returned (.string (tx (numT fn))) ∧ Below w.heap.size w w' := by
  have by1 : ((tx op).toList == [110, 117, 109]) = true := tx_is hwnum
  clear hwnum
  have HB2 := Lib.hid (bel1 w (.cells #[.string (tx op), .float .f64 fn, .string (tx s), .slice x N cap] 25))
  have HNB2 : Hid (NB (w.alloc (.cells #[.string (tx op), .float .f64 fn, .string (tx s), .slice x N cap] 25)) w.heap.size (.agg #[.string (tx op), .float .f64 fn, .string (tx s), .slice x N cap])) := Lib.hid ⟨_, _, _, _, rfl, heap_alloc_new _ _⟩
  rcases geB_cases (a := fn) (b := 0) with ⟨h0, o0⟩ | ⟨h0, o1, o2⟩
  · rcases lqB_cases (a := fn) (b := 4831355200913801208) with ⟨h1, p0⟩ | ⟨h1, p1, p2⟩
    · have q : inN fn = true := by unfold inN topN; rw [h0, h1]; rfl
      have hcv := conv_in fn q
      have HK := Lib.hid (in_int q).2
      have HN : Hid (numT fn = if eqN (ofI (kN fn)) fn = true then decDigits (kN fn) else [48]) := Lib.hid (by unfold numT okN; rw [q, Bool.true_and])
      clear q h0 h1
      generalize kN fn = k at hcv HK HN
      rcases eqN_cases (a := ofI (k : Int)) (b := fn) with ⟨g, c⟩ | ⟨g, c⟩
      · have HR : Hid (numT fn = decDigits k) := Lib.hid (by rw [HN.out, if_pos g])
        replace c : FloatKind.f64.format.order (floatOfInt FloatKind.f64 (k : Int)) fn = some Ordering.eq := c
        have HW := Lib.hid (fun W => rwhole k HK.out W)
        clear HN g
        rcases o0 with o0 | o0 <;> rcases p0 with p9 | p9
        all_goals
          go_enter Tryz.func20, Tryz.ntmps20
          go_upto_region 1 with (fail)
          generalize w.alloc (.cells #[.string (tx op), .float .f64 fn, .string (tx s), .slice x N cap] 25) = w2 at HB2 HNB2 ⊢
          obtain ⟨p0, p1, p2, p3, _⟩ := HNB2.out.cells
          have hlt := HNB2.out.lt
          go_wp2_with (first | (go_at_call 33; refine (HTK.out _).mono ?_; rintro e w1 ⟨rfl, rfl⟩) | (go_at_call 34; fail))
          go_at_call 34
          refine (HW.out _).mono ?_
          rintro e w3 ⟨rfl, hb3⟩
          have HB3 := Lib.hid (HB2.out.trans (below_le hb3 HB2.out.size))
          clear hb3
          go_wp2
          go_ret
          exact ⟨by rw [HR.out]; rfl, HB3.out⟩
      · have HR : Hid (numT fn = [48]) := Lib.hid (by rw [HN.out, if_neg (by rw [g]; decide)])
        replace c : (FloatKind.f64.format.order (floatOfInt FloatKind.f64 (k : Int)) fn == some Ordering.eq) = false := c
        clear HN g
        rcases o0 with o0 | o0 <;> rcases p0 with p9 | p9
        all_goals
          go_enter Tryz.func20, Tryz.ntmps20
          go_upto_region 1 with (fail)
          generalize w.alloc (.cells #[.string (tx op), .float .f64 fn, .string (tx s), .slice x N cap] 25) = w2 at HB2 HNB2 ⊢
          obtain ⟨p0, p1, p2, p3, _⟩ := HNB2.out.cells
          have hlt := HNB2.out.lt
          go_wp2_with (first | (go_at_call 33; refine (HTK.out _).mono ?_; rintro e w1 ⟨rfl, rfl⟩))
          go_ret
          exact ⟨by rw [HR.out]; rfl, HB2.out⟩
    · have HR : Hid (numT fn = [48]) := Lib.hid (numT_out (by unfold inN topN; rw [h0, h1]; rfl))
      clear h0 h1
      have l1 := p1
      have l2 := p2
      clear p1 p2
      rcases o0 with o0 | o0
      all_goals
        go_enter Tryz.func20, Tryz.ntmps20
        go_upto_region 1 with (fail)
        generalize w.alloc (.cells #[.string (tx op), .float .f64 fn, .string (tx s), .slice x N cap] 25) = w2 at HB2 HNB2 ⊢
        obtain ⟨p0, p1, p2, p3, _⟩ := HNB2.out.cells
        have hlt := HNB2.out.lt
        go_wp2_with (first | (go_at_call 33; refine (HTK.out _).mono ?_; rintro e w1 ⟨rfl, rfl⟩))
        go_ret
        exact ⟨by rw [HR.out]; rfl, HB2.out⟩
  · have HR : Hid (numT fn = [48]) := Lib.hid (numT_out (by unfold inN; rw [h0]; rfl))
    clear h0
    go_enter Tryz.func20, Tryz.ntmps20
    go_upto_region 1 with (fail)
    generalize w.alloc (.cells #[.string (tx op), .float .f64 fn, .string (tx s), .slice x N cap] 25) = w2 at HB2 HNB2 ⊢
    obtain ⟨p0, p1, p2, p3, _⟩ := HNB2.out.cells
    have hlt := HNB2.out.lt
    go_wp2_with (first | (go_at_call 33; refine (HTK.out _).mono ?_; rintro e w1 ⟨rfl, rfl⟩))
    go_ret
    exact ⟨by rw [HR.out]; rfl, HB2.out⟩
set_option maxRecDepth 100000 in
set_option maxHeartbeats 8000000 in
theorem rpr_text (op s : Bs) (fn : Nat) (x : Option Addr) (N cap : Nat) (w : World) (hwnum : op ≠ wnum) (hwtext : op = wtext) (hs : s.length ≤ 1000000)
    (tk : Int) (hne : (tk != (N : Int)) = false) (HTK : Hid (∀ W, Calls Tryz.prog 33 #[.string (tx op)] W fun e w' => e = .returned (.int .i64 tk) ∧ W = w')) :
    Calls Tryz.prog 20 #[.agg #[.string (tx op), .float .f64 fn, .string (tx s), .slice x N cap]] w fun e w' => e = .returned (.string (tx ([39] ++ s ++ [39]))) ∧ Below w.heap.size w w' := by
  have zl0 : (tx s).size ≤ 1000000 := by rw [tx_size' s]; omega
  have zb2 : 1 + (tx s).size ≤ 9223372036854775807 := by omega
  have zb3 : 1 + (tx s).size ≤ 9223372036854775806 := by omega
  have zd2 : (9223372036854775807 < 1 + (tx s).size) = False := eq_false (by omega)
  have zd3 : (9223372036854775807 < 1 + (tx s).size + 1) = False := eq_false (by omega)
  clear zl0
  have HR : Hid (({ data := #[39] } : ByteArray) ++ tx s ++ ({ data := #[39] } : ByteArray) = tx ([39] ++ s ++ [39])) := Lib.hid (by
    rw [show ([39] ++ s ++ [39] : Bs) = [39] ++ s ++ [39] from rfl]
    show tx [39] ++ tx s ++ tx [39] = _
    rw [tx_app, tx_app])
  have bn0 : ((tx op).toList == [110, 117, 109]) = false := tx_ne hwnum
  have by1 : ((tx op).toList == [116, 101, 120, 116]) = true := tx_is hwtext
  clear hwnum hwtext
  have HB2 := Lib.hid (bel1 w (.cells #[.string (tx op), .float .f64 fn, .string (tx s), .slice x N cap] 25))
  have HNB2 : Hid (NB (w.alloc (.cells #[.string (tx op), .float .f64 fn, .string (tx s), .slice x N cap] 25)) w.heap.size (.agg #[.string (tx op), .float .f64 fn, .string (tx s), .slice x N cap])) := Lib.hid ⟨_, _, _, _, rfl, heap_alloc_new _ _⟩
  go_enter Tryz.func20, Tryz.ntmps20
  go_upto_region 1 with (fail)
  generalize w.alloc (.cells #[.string (tx op), .float .f64 fn, .string (tx s), .slice x N cap] 25) = w2 at HB2 HNB2 ⊢
  obtain ⟨p0, p1, p2, p3, _⟩ := HNB2.out.cells
  have hlt := HNB2.out.lt
  go_wp2_with (first | (go_at_call 33; refine (HTK.out _).mono ?_; rintro e w1 ⟨rfl, rfl⟩))
  go_ret
  exact ⟨ret_str HR.out, HB2.out⟩
set_option maxRecDepth 100000 in
set_option maxHeartbeats 8000000 in
theorem rpr_name (op s : Bs) (fn : Nat) (x : Option Addr) (N cap : Nat) (w : World) (hwnum : op ≠ wnum) (hwtext : op ≠ wtext) (hwname : op = wname)
    (tk : Int) (hne : (tk != (N : Int)) = false) (HTK : Hid (∀ W, Calls Tryz.prog 33 #[.string (tx op)] W fun e w' => e = .returned (.int .i64 tk) ∧ W = w')) :
    Calls Tryz.prog 20 #[.agg #[.string (tx op), .float .f64 fn, .string (tx s), .slice x N cap]] w fun e w' => e = .returned (.string (tx s)) ∧ Below w.heap.size w w' := by
  have bn0 : ((tx op).toList == [110, 117, 109]) = false := tx_ne hwnum
  have bn1 : ((tx op).toList == [116, 101, 120, 116]) = false := tx_ne hwtext
  have by1 : ((tx op).toList == [110, 97, 109, 101]) = true := tx_is hwname
  clear hwnum hwtext hwname
  have HB2 := Lib.hid (bel1 w (.cells #[.string (tx op), .float .f64 fn, .string (tx s), .slice x N cap] 25))
  have HNB2 : Hid (NB (w.alloc (.cells #[.string (tx op), .float .f64 fn, .string (tx s), .slice x N cap] 25)) w.heap.size (.agg #[.string (tx op), .float .f64 fn, .string (tx s), .slice x N cap])) := Lib.hid ⟨_, _, _, _, rfl, heap_alloc_new _ _⟩
  go_enter Tryz.func20, Tryz.ntmps20
  go_upto_region 1 with (fail)
  generalize w.alloc (.cells #[.string (tx op), .float .f64 fn, .string (tx s), .slice x N cap] 25) = w2 at HB2 HNB2 ⊢
  obtain ⟨p0, p1, p2, p3, _⟩ := HNB2.out.cells
  have hlt := HNB2.out.lt
  go_wp2_with (first | (go_at_call 33; refine (HTK.out _).mono ?_; rintro e w1 ⟨rfl, rfl⟩))
  go_ret
  exact ⟨rfl, HB2.out⟩
set_option maxRecDepth 100000 in
set_option maxHeartbeats 8000000 in
theorem rpr_len (op s : Bs) (fn : Nat) (x : Option Addr) (N cap : Nat) (w : World) (hwnum : op ≠ wnum) (hwtext : op ≠ wtext) (hwname : op ≠ wname) (hwlen : op = wlen) (a : Addr) (hab : a.block < w.heap.size) (o1 s1 : ByteArray) (n1 : Nat) (x1 : Option Addr) (l1 c1 : Nat) (d0 : w.cell? a = some (.string o1)) (d1 : w.cell? ⟨a.block, a.off + 1, none⟩ = some (.float .f64 n1)) (d2 : w.cell? ⟨a.block, a.off + 2, none⟩ = some (.string s1)) (d3 : w.cell? ⟨a.block, a.off + 3, none⟩ = some (.slice x1 l1 c1)) (hx : x = some a) (hN : N = 1) (P : Bs) (hP : P.length ≤ 1000000) (HC : Hid (∀ W, Below w.heap.size w W → Calls Tryz.prog 20 #[.agg #[.string o1, .float .f64 n1, .string s1, .slice x1 l1 c1]] W fun e w' => e = .returned (.string (tx P)) ∧ Below W.heap.size W w'))
    (tk : Int) (hne : (tk != 1) = false) (HTK : Hid (∀ W, Calls Tryz.prog 33 #[.string (tx op)] W fun e w' => e = .returned (.int .i64 tk) ∧ W = w')) :
    Calls Tryz.prog 20 #[.agg #[.string (tx op), .float .f64 fn, .string (tx s), .slice x N cap]] w fun e w' => e = .returned (.string (tx (op ++ [40] ++ P ++ [41]))) ∧ Below w.heap.size w w' := by
  subst hx
  subst hN
  have HD := Lib.hid (And.intro d0 (And.intro d1 (And.intro d2 (d3))))
  have hop4 : op.length ≤ 4 := by rw [hwlen]; decide
  have zl0 : (tx op).size ≤ 1000000 := by rw [tx_size' op]; omega
  have zl1 : (tx P).size ≤ 1000000 := by rw [tx_size' P]; omega
  have zb2 : (tx op).size ≤ 9223372036854775806 := by omega
  have zb3 : (tx op).size + 1 + (tx P).size ≤ 9223372036854775807 := by omega
  have zb4 : (tx op).size + 1 + (tx P).size ≤ 9223372036854775806 := by omega
  have zd2 : (9223372036854775807 < (tx op).size + 1) = False := eq_false (by omega)
  have zd3 : (9223372036854775807 < (tx op).size + 1 + (tx P).size) = False := eq_false (by omega)
  have zd4 : (9223372036854775807 < (tx op).size + 1 + (tx P).size + 1) = False := eq_false (by omega)
  clear zl0
  clear zl1
  have HR : Hid (tx op ++ ({ data := #[40] } : ByteArray) ++ tx P ++ ({ data := #[41] } : ByteArray) = tx (op ++ [40] ++ P ++ [41])) := Lib.hid (by
    rw [show (op ++ [40] ++ P ++ [41] : Bs) = op ++ [40] ++ P ++ [41] from rfl]
    show tx op ++ tx [40] ++ tx P ++ tx [41] = _
    rw [tx_app, tx_app, tx_app])
  have bn0 : ((tx op).toList == [110, 117, 109]) = false := tx_ne hwnum
  have bn1 : ((tx op).toList == [116, 101, 120, 116]) = false := tx_ne hwtext
  have bn2 : ((tx op).toList == [110, 97, 109, 101]) = false := tx_ne hwname
  have by1 : ((tx op).toList == [108, 101, 110]) = true := tx_is hwlen
  clear hwnum hwtext hwname hwlen
  clear d0 d1 d2 d3
  have HB2 := Lib.hid (bel1 w (.cells #[.string (tx op), .float .f64 fn, .string (tx s), .slice (some a) 1 cap] 25))
  have HNB2 : Hid (NB (w.alloc (.cells #[.string (tx op), .float .f64 fn, .string (tx s), .slice (some a) 1 cap] 25)) w.heap.size (.agg #[.string (tx op), .float .f64 fn, .string (tx s), .slice (some a) 1 cap])) := Lib.hid ⟨_, _, _, _, rfl, heap_alloc_new _ _⟩
  go_enter Tryz.func20, Tryz.ntmps20
  go_upto_region 1 with (fail)
  generalize w.alloc (.cells #[.string (tx op), .float .f64 fn, .string (tx s), .slice (some a) 1 cap] 25) = w2 at HB2 HNB2 ⊢
  obtain ⟨p0, p1, p2, p3, _⟩ := HNB2.out.cells
  have hlt := HNB2.out.lt
  have HSS : Hid (∀ W, Below w2.heap.size w2 W → Below w2.heap.size w2 W ∧ W.cell? ⟨w.heap.size, 0, none⟩ = some (.string (tx op)) ∧ W.cell? ⟨w.heap.size, 3, none⟩ = some (.slice (some a) 1 cap) ∧ W.cell? a = some (.string o1) ∧ W.cell? ⟨a.block, a.off + 1, none⟩ = some (.float .f64 n1) ∧ W.cell? ⟨a.block, a.off + 2, none⟩ = some (.string s1) ∧ W.cell? ⟨a.block, a.off + 3, none⟩ = some (.slice x1 l1 c1)) := Lib.hid (fun W hW => by
    have k1 : W.heap[w.heap.size]? = w2.heap[w.heap.size]? := hW.block _ hlt
    have k3 : W.heap[a.block]? = w.heap[a.block]? := (hW.block _ (by omega)).trans (HB2.out.block _ hab)
    exact ⟨hW, cell_same (a := ⟨w.heap.size, 0, none⟩) k1 p0, cell_same (a := ⟨w.heap.size, 3, none⟩) k1 p3, cell_same k3 HD.out.1, cell_same (a := ⟨a.block, a.off + 1, none⟩) k3 HD.out.2.1, cell_same (a := ⟨a.block, a.off + 2, none⟩) k3 HD.out.2.2.1, cell_same (a := ⟨a.block, a.off + 3, none⟩) k3 HD.out.2.2.2⟩)
  have HC2 := Lib.hid (fun W (h : Below w2.heap.size w2 W) => HC.out W (HB2.out.trans (below_le h HB2.out.size)))
  obtain ⟨_, _, _, d0, d1, d2, d3⟩ := HSS.out w2 (Below.refl _ _)
  go_wp2_with (first | (go_at_call 33; refine (HTK.out _).mono ?_; rintro e w1 ⟨rfl, rfl⟩))
  go_region_held3 (fun W => Below w2.heap.size w2 W ∧ W.cell? ⟨w.heap.size, 0, none⟩ = some (.string (tx op)) ∧ W.cell? ⟨w.heap.size, 3, none⟩ = some (.slice (some a) 1 cap) ∧ W.cell? a = some (.string o1) ∧ W.cell? ⟨a.block, a.off + 1, none⟩ = some (.float .f64 n1) ∧ W.cell? ⟨a.block, a.off + 2, none⟩ = some (.string s1) ∧ W.cell? ⟨a.block, a.off + 3, none⟩ = some (.slice x1 l1 c1))
    (first | exact HSS.out _ (Below.refl _ _).drew | exact HSS.out _ HB5.out)
    (first | (go_at_call 20; (with_reducible refine (HC2.out _ (Below.refl _ _).drew).mono ?_); rintro e w5 ⟨rfl, hb5⟩; have HB5 := Lib.hid ((Below.refl w2.heap.size w2).drew.trans hb5 : Below w2.heap.size w2 w5); clear hb5))
  go_wp2
  go_ret
  exact ⟨ret_str HR.out, HB2.out.trans (below_le HB5.out HB2.out.size)⟩
set_option maxRecDepth 100000 in
set_option maxHeartbeats 8000000 in
theorem rpr_abs (op s : Bs) (fn : Nat) (x : Option Addr) (N cap : Nat) (w : World) (hwnum : op ≠ wnum) (hwtext : op ≠ wtext) (hwname : op ≠ wname) (hwlen : op ≠ wlen) (hwabs : op = wabs) (a : Addr) (hab : a.block < w.heap.size) (o1 s1 : ByteArray) (n1 : Nat) (x1 : Option Addr) (l1 c1 : Nat) (d0 : w.cell? a = some (.string o1)) (d1 : w.cell? ⟨a.block, a.off + 1, none⟩ = some (.float .f64 n1)) (d2 : w.cell? ⟨a.block, a.off + 2, none⟩ = some (.string s1)) (d3 : w.cell? ⟨a.block, a.off + 3, none⟩ = some (.slice x1 l1 c1)) (hx : x = some a) (hN : N = 1) (P : Bs) (hP : P.length ≤ 1000000) (HC : Hid (∀ W, Below w.heap.size w W → Calls Tryz.prog 20 #[.agg #[.string o1, .float .f64 n1, .string s1, .slice x1 l1 c1]] W fun e w' => e = .returned (.string (tx P)) ∧ Below W.heap.size W w'))
    (tk : Int) (hne : (tk != 1) = false) (HTK : Hid (∀ W, Calls Tryz.prog 33 #[.string (tx op)] W fun e w' => e = .returned (.int .i64 tk) ∧ W = w')) :
    Calls Tryz.prog 20 #[.agg #[.string (tx op), .float .f64 fn, .string (tx s), .slice x N cap]] w fun e w' => e = .returned (.string (tx (op ++ [40] ++ P ++ [41]))) ∧ Below w.heap.size w w' := by
  subst hx
  subst hN
  have HD := Lib.hid (And.intro d0 (And.intro d1 (And.intro d2 (d3))))
  have hop4 : op.length ≤ 4 := by rw [hwabs]; decide
  have zl0 : (tx op).size ≤ 1000000 := by rw [tx_size' op]; omega
  have zl1 : (tx P).size ≤ 1000000 := by rw [tx_size' P]; omega
  have zb2 : (tx op).size ≤ 9223372036854775806 := by omega
  have zb3 : (tx op).size + 1 + (tx P).size ≤ 9223372036854775807 := by omega
  have zb4 : (tx op).size + 1 + (tx P).size ≤ 9223372036854775806 := by omega
  have zd2 : (9223372036854775807 < (tx op).size + 1) = False := eq_false (by omega)
  have zd3 : (9223372036854775807 < (tx op).size + 1 + (tx P).size) = False := eq_false (by omega)
  have zd4 : (9223372036854775807 < (tx op).size + 1 + (tx P).size + 1) = False := eq_false (by omega)
  clear zl0
  clear zl1
  have HR : Hid (tx op ++ ({ data := #[40] } : ByteArray) ++ tx P ++ ({ data := #[41] } : ByteArray) = tx (op ++ [40] ++ P ++ [41])) := Lib.hid (by
    rw [show (op ++ [40] ++ P ++ [41] : Bs) = op ++ [40] ++ P ++ [41] from rfl]
    show tx op ++ tx [40] ++ tx P ++ tx [41] = _
    rw [tx_app, tx_app, tx_app])
  have bn0 : ((tx op).toList == [110, 117, 109]) = false := tx_ne hwnum
  have bn1 : ((tx op).toList == [116, 101, 120, 116]) = false := tx_ne hwtext
  have bn2 : ((tx op).toList == [110, 97, 109, 101]) = false := tx_ne hwname
  have bn3 : ((tx op).toList == [108, 101, 110]) = false := tx_ne hwlen
  have by1 : ((tx op).toList == [97, 98, 115]) = true := tx_is hwabs
  clear hwnum hwtext hwname hwlen hwabs
  clear d0 d1 d2 d3
  have HB2 := Lib.hid (bel1 w (.cells #[.string (tx op), .float .f64 fn, .string (tx s), .slice (some a) 1 cap] 25))
  have HNB2 : Hid (NB (w.alloc (.cells #[.string (tx op), .float .f64 fn, .string (tx s), .slice (some a) 1 cap] 25)) w.heap.size (.agg #[.string (tx op), .float .f64 fn, .string (tx s), .slice (some a) 1 cap])) := Lib.hid ⟨_, _, _, _, rfl, heap_alloc_new _ _⟩
  go_enter Tryz.func20, Tryz.ntmps20
  go_upto_region 1 with (fail)
  generalize w.alloc (.cells #[.string (tx op), .float .f64 fn, .string (tx s), .slice (some a) 1 cap] 25) = w2 at HB2 HNB2 ⊢
  obtain ⟨p0, p1, p2, p3, _⟩ := HNB2.out.cells
  have hlt := HNB2.out.lt
  have HSS : Hid (∀ W, Below w2.heap.size w2 W → Below w2.heap.size w2 W ∧ W.cell? ⟨w.heap.size, 0, none⟩ = some (.string (tx op)) ∧ W.cell? ⟨w.heap.size, 3, none⟩ = some (.slice (some a) 1 cap) ∧ W.cell? a = some (.string o1) ∧ W.cell? ⟨a.block, a.off + 1, none⟩ = some (.float .f64 n1) ∧ W.cell? ⟨a.block, a.off + 2, none⟩ = some (.string s1) ∧ W.cell? ⟨a.block, a.off + 3, none⟩ = some (.slice x1 l1 c1)) := Lib.hid (fun W hW => by
    have k1 : W.heap[w.heap.size]? = w2.heap[w.heap.size]? := hW.block _ hlt
    have k3 : W.heap[a.block]? = w.heap[a.block]? := (hW.block _ (by omega)).trans (HB2.out.block _ hab)
    exact ⟨hW, cell_same (a := ⟨w.heap.size, 0, none⟩) k1 p0, cell_same (a := ⟨w.heap.size, 3, none⟩) k1 p3, cell_same k3 HD.out.1, cell_same (a := ⟨a.block, a.off + 1, none⟩) k3 HD.out.2.1, cell_same (a := ⟨a.block, a.off + 2, none⟩) k3 HD.out.2.2.1, cell_same (a := ⟨a.block, a.off + 3, none⟩) k3 HD.out.2.2.2⟩)
  have HC2 := Lib.hid (fun W (h : Below w2.heap.size w2 W) => HC.out W (HB2.out.trans (below_le h HB2.out.size)))
  obtain ⟨_, _, _, d0, d1, d2, d3⟩ := HSS.out w2 (Below.refl _ _)
  go_wp2_with (first | (go_at_call 33; refine (HTK.out _).mono ?_; rintro e w1 ⟨rfl, rfl⟩))
  go_region_held3 (fun W => Below w2.heap.size w2 W ∧ W.cell? ⟨w.heap.size, 0, none⟩ = some (.string (tx op)) ∧ W.cell? ⟨w.heap.size, 3, none⟩ = some (.slice (some a) 1 cap) ∧ W.cell? a = some (.string o1) ∧ W.cell? ⟨a.block, a.off + 1, none⟩ = some (.float .f64 n1) ∧ W.cell? ⟨a.block, a.off + 2, none⟩ = some (.string s1) ∧ W.cell? ⟨a.block, a.off + 3, none⟩ = some (.slice x1 l1 c1))
    (first | exact HSS.out _ (Below.refl _ _).drew | exact HSS.out _ HB5.out)
    (first | (go_at_call 20; (with_reducible refine (HC2.out _ (Below.refl _ _).drew).mono ?_); rintro e w5 ⟨rfl, hb5⟩; have HB5 := Lib.hid ((Below.refl w2.heap.size w2).drew.trans hb5 : Below w2.heap.size w2 w5); clear hb5))
  go_wp2
  go_ret
  exact ⟨ret_str HR.out, HB2.out.trans (below_le HB5.out HB2.out.size)⟩
set_option maxRecDepth 100000 in
set_option maxHeartbeats 8000000 in
theorem rpr_not (op s : Bs) (fn : Nat) (x : Option Addr) (N cap : Nat) (w : World) (hwnum : op ≠ wnum) (hwtext : op ≠ wtext) (hwname : op ≠ wname) (hwlen : op ≠ wlen) (hwabs : op ≠ wabs) (hwhas : op ≠ whas) (hwnot : op = wnot) (a : Addr) (hab : a.block < w.heap.size) (o1 s1 : ByteArray) (n1 : Nat) (x1 : Option Addr) (l1 c1 : Nat) (d0 : w.cell? a = some (.string o1)) (d1 : w.cell? ⟨a.block, a.off + 1, none⟩ = some (.float .f64 n1)) (d2 : w.cell? ⟨a.block, a.off + 2, none⟩ = some (.string s1)) (d3 : w.cell? ⟨a.block, a.off + 3, none⟩ = some (.slice x1 l1 c1)) (hx : x = some a) (hN : N = 1) (P : Bs) (hP : P.length ≤ 1000000) (HC : Hid (∀ W, Below w.heap.size w W → Calls Tryz.prog 35 #[.agg #[.string o1, .float .f64 n1, .string s1, .slice x1 l1 c1]] W fun e w' => e = .returned (.string (tx P)) ∧ Below W.heap.size W w'))
    (tk : Int) (hne : (tk != 1) = false) (HTK : Hid (∀ W, Calls Tryz.prog 33 #[.string (tx op)] W fun e w' => e = .returned (.int .i64 tk) ∧ W = w')) :
    Calls Tryz.prog 20 #[.agg #[.string (tx op), .float .f64 fn, .string (tx s), .slice x N cap]] w fun e w' => e = .returned (.string (tx ([110, 111, 116, 32] ++ P))) ∧ Below w.heap.size w w' := by
  subst hx
  subst hN
  have HD := Lib.hid (And.intro d0 (And.intro d1 (And.intro d2 (d3))))
  have zl0 : (tx P).size ≤ 1000000 := by rw [tx_size' P]; omega
  have zb2 : 4 + (tx P).size ≤ 9223372036854775807 := by omega
  have zd2 : (9223372036854775807 < 4 + (tx P).size) = False := eq_false (by omega)
  clear zl0
  have HR : Hid (({ data := #[110, 111, 116, 32] } : ByteArray) ++ tx P = tx ([110, 111, 116, 32] ++ P)) := Lib.hid (by
    rw [show ([110, 111, 116, 32] ++ P : Bs) = [110, 111, 116, 32] ++ P from rfl]
    show tx [110, 111, 116, 32] ++ tx P = _
    rw [tx_app])
  have bn0 : ((tx op).toList == [110, 117, 109]) = false := tx_ne hwnum
  have bn1 : ((tx op).toList == [116, 101, 120, 116]) = false := tx_ne hwtext
  have bn2 : ((tx op).toList == [110, 97, 109, 101]) = false := tx_ne hwname
  have bn3 : ((tx op).toList == [108, 101, 110]) = false := tx_ne hwlen
  have bn4 : ((tx op).toList == [97, 98, 115]) = false := tx_ne hwabs
  have bn5 : ((tx op).toList == [104, 97, 115]) = false := tx_ne hwhas
  have by1 : ((tx op).toList == [110, 111, 116]) = true := tx_is hwnot
  clear hwnum hwtext hwname hwlen hwabs hwhas hwnot
  clear d0 d1 d2 d3
  have HB2 := Lib.hid (bel1 w (.cells #[.string (tx op), .float .f64 fn, .string (tx s), .slice (some a) 1 cap] 25))
  have HNB2 : Hid (NB (w.alloc (.cells #[.string (tx op), .float .f64 fn, .string (tx s), .slice (some a) 1 cap] 25)) w.heap.size (.agg #[.string (tx op), .float .f64 fn, .string (tx s), .slice (some a) 1 cap])) := Lib.hid ⟨_, _, _, _, rfl, heap_alloc_new _ _⟩
  go_enter Tryz.func20, Tryz.ntmps20
  go_upto_region 1 with (fail)
  generalize w.alloc (.cells #[.string (tx op), .float .f64 fn, .string (tx s), .slice (some a) 1 cap] 25) = w2 at HB2 HNB2 ⊢
  obtain ⟨p0, p1, p2, p3, _⟩ := HNB2.out.cells
  have hlt := HNB2.out.lt
  have HSS : Hid (∀ W, Below w2.heap.size w2 W → Below w2.heap.size w2 W ∧ W.cell? ⟨w.heap.size, 0, none⟩ = some (.string (tx op)) ∧ W.cell? ⟨w.heap.size, 3, none⟩ = some (.slice (some a) 1 cap) ∧ W.cell? a = some (.string o1) ∧ W.cell? ⟨a.block, a.off + 1, none⟩ = some (.float .f64 n1) ∧ W.cell? ⟨a.block, a.off + 2, none⟩ = some (.string s1) ∧ W.cell? ⟨a.block, a.off + 3, none⟩ = some (.slice x1 l1 c1)) := Lib.hid (fun W hW => by
    have k1 : W.heap[w.heap.size]? = w2.heap[w.heap.size]? := hW.block _ hlt
    have k3 : W.heap[a.block]? = w.heap[a.block]? := (hW.block _ (by omega)).trans (HB2.out.block _ hab)
    exact ⟨hW, cell_same (a := ⟨w.heap.size, 0, none⟩) k1 p0, cell_same (a := ⟨w.heap.size, 3, none⟩) k1 p3, cell_same k3 HD.out.1, cell_same (a := ⟨a.block, a.off + 1, none⟩) k3 HD.out.2.1, cell_same (a := ⟨a.block, a.off + 2, none⟩) k3 HD.out.2.2.1, cell_same (a := ⟨a.block, a.off + 3, none⟩) k3 HD.out.2.2.2⟩)
  have HC2 := Lib.hid (fun W (h : Below w2.heap.size w2 W) => HC.out W (HB2.out.trans (below_le h HB2.out.size)))
  obtain ⟨_, _, _, d0, d1, d2, d3⟩ := HSS.out w2 (Below.refl _ _)
  go_wp2_with (first | (go_at_call 33; refine (HTK.out _).mono ?_; rintro e w1 ⟨rfl, rfl⟩) | (go_at_call 35; fail))
  go_at_call 35
  refine (HC2.out w2 (Below.refl _ _)).mono ?_
  rintro e w3 ⟨rfl, hb3⟩
  have HB3 := Lib.hid (HB2.out.trans (below_le hb3 HB2.out.size))
  clear hb3
  go_wp2
  go_ret
  exact ⟨ret_str HR.out, HB3.out⟩
set_option maxRecDepth 100000 in
set_option maxHeartbeats 8000000 in
theorem rpr_neg (op s : Bs) (fn : Nat) (x : Option Addr) (N cap : Nat) (w : World) (hwnum : op ≠ wnum) (hwtext : op ≠ wtext) (hwname : op ≠ wname) (hwlen : op ≠ wlen) (hwabs : op ≠ wabs) (hwhas : op ≠ whas) (hwnot : op ≠ wnot) (hwneg : op = wneg) (a : Addr) (hab : a.block < w.heap.size) (o1 s1 : ByteArray) (n1 : Nat) (x1 : Option Addr) (l1 c1 : Nat) (d0 : w.cell? a = some (.string o1)) (d1 : w.cell? ⟨a.block, a.off + 1, none⟩ = some (.float .f64 n1)) (d2 : w.cell? ⟨a.block, a.off + 2, none⟩ = some (.string s1)) (d3 : w.cell? ⟨a.block, a.off + 3, none⟩ = some (.slice x1 l1 c1)) (hx : x = some a) (hN : N = 1) (P : Bs) (hP : P.length ≤ 1000000) (HC : Hid (∀ W, Below w.heap.size w W → Calls Tryz.prog 35 #[.agg #[.string o1, .float .f64 n1, .string s1, .slice x1 l1 c1]] W fun e w' => e = .returned (.string (tx P)) ∧ Below W.heap.size W w'))
    (tk : Int) (hne : (tk != 1) = false) (HTK : Hid (∀ W, Calls Tryz.prog 33 #[.string (tx op)] W fun e w' => e = .returned (.int .i64 tk) ∧ W = w')) :
    Calls Tryz.prog 20 #[.agg #[.string (tx op), .float .f64 fn, .string (tx s), .slice x N cap]] w fun e w' => e = .returned (.string (tx ([45] ++ P))) ∧ Below w.heap.size w w' := by
  subst hx
  subst hN
  have HD := Lib.hid (And.intro d0 (And.intro d1 (And.intro d2 (d3))))
  have zl0 : (tx P).size ≤ 1000000 := by rw [tx_size' P]; omega
  have zb2 : 1 + (tx P).size ≤ 9223372036854775807 := by omega
  have zd2 : (9223372036854775807 < 1 + (tx P).size) = False := eq_false (by omega)
  clear zl0
  have HR : Hid (({ data := #[45] } : ByteArray) ++ tx P = tx ([45] ++ P)) := Lib.hid (by
    rw [show ([45] ++ P : Bs) = [45] ++ P from rfl]
    show tx [45] ++ tx P = _
    rw [tx_app])
  have bn0 : ((tx op).toList == [110, 117, 109]) = false := tx_ne hwnum
  have bn1 : ((tx op).toList == [116, 101, 120, 116]) = false := tx_ne hwtext
  have bn2 : ((tx op).toList == [110, 97, 109, 101]) = false := tx_ne hwname
  have bn3 : ((tx op).toList == [108, 101, 110]) = false := tx_ne hwlen
  have bn4 : ((tx op).toList == [97, 98, 115]) = false := tx_ne hwabs
  have bn5 : ((tx op).toList == [104, 97, 115]) = false := tx_ne hwhas
  have bn6 : ((tx op).toList == [110, 111, 116]) = false := tx_ne hwnot
  have by1 : ((tx op).toList == [110, 101, 103]) = true := tx_is hwneg
  clear hwnum hwtext hwname hwlen hwabs hwhas hwnot hwneg
  clear d0 d1 d2 d3
  have HB2 := Lib.hid (bel1 w (.cells #[.string (tx op), .float .f64 fn, .string (tx s), .slice (some a) 1 cap] 25))
  have HNB2 : Hid (NB (w.alloc (.cells #[.string (tx op), .float .f64 fn, .string (tx s), .slice (some a) 1 cap] 25)) w.heap.size (.agg #[.string (tx op), .float .f64 fn, .string (tx s), .slice (some a) 1 cap])) := Lib.hid ⟨_, _, _, _, rfl, heap_alloc_new _ _⟩
  go_enter Tryz.func20, Tryz.ntmps20
  go_upto_region 1 with (fail)
  generalize w.alloc (.cells #[.string (tx op), .float .f64 fn, .string (tx s), .slice (some a) 1 cap] 25) = w2 at HB2 HNB2 ⊢
  obtain ⟨p0, p1, p2, p3, _⟩ := HNB2.out.cells
  have hlt := HNB2.out.lt
  have HSS : Hid (∀ W, Below w2.heap.size w2 W → Below w2.heap.size w2 W ∧ W.cell? ⟨w.heap.size, 0, none⟩ = some (.string (tx op)) ∧ W.cell? ⟨w.heap.size, 3, none⟩ = some (.slice (some a) 1 cap) ∧ W.cell? a = some (.string o1) ∧ W.cell? ⟨a.block, a.off + 1, none⟩ = some (.float .f64 n1) ∧ W.cell? ⟨a.block, a.off + 2, none⟩ = some (.string s1) ∧ W.cell? ⟨a.block, a.off + 3, none⟩ = some (.slice x1 l1 c1)) := Lib.hid (fun W hW => by
    have k1 : W.heap[w.heap.size]? = w2.heap[w.heap.size]? := hW.block _ hlt
    have k3 : W.heap[a.block]? = w.heap[a.block]? := (hW.block _ (by omega)).trans (HB2.out.block _ hab)
    exact ⟨hW, cell_same (a := ⟨w.heap.size, 0, none⟩) k1 p0, cell_same (a := ⟨w.heap.size, 3, none⟩) k1 p3, cell_same k3 HD.out.1, cell_same (a := ⟨a.block, a.off + 1, none⟩) k3 HD.out.2.1, cell_same (a := ⟨a.block, a.off + 2, none⟩) k3 HD.out.2.2.1, cell_same (a := ⟨a.block, a.off + 3, none⟩) k3 HD.out.2.2.2⟩)
  have HC2 := Lib.hid (fun W (h : Below w2.heap.size w2 W) => HC.out W (HB2.out.trans (below_le h HB2.out.size)))
  obtain ⟨_, _, _, d0, d1, d2, d3⟩ := HSS.out w2 (Below.refl _ _)
  go_wp2_with (first | (go_at_call 33; refine (HTK.out _).mono ?_; rintro e w1 ⟨rfl, rfl⟩) | (go_at_call 35; fail))
  go_at_call 35
  refine (HC2.out w2 (Below.refl _ _)).mono ?_
  rintro e w3 ⟨rfl, hb3⟩
  have HB3 := Lib.hid (HB2.out.trans (below_le hb3 HB2.out.size))
  clear hb3
  go_wp2
  go_ret
  exact ⟨ret_str HR.out, HB3.out⟩
set_option maxRecDepth 100000 in
set_option maxHeartbeats 8000000 in
theorem rpr_has (op s : Bs) (fn : Nat) (x : Option Addr) (N cap : Nat) (w : World) (hwnum : op ≠ wnum) (hwtext : op ≠ wtext) (hwname : op ≠ wname) (hwlen : op ≠ wlen) (hwabs : op ≠ wabs) (hwhas : op = whas)  (a : Addr) (hab : a.block < w.heap.size) (o1 s1 : ByteArray) (n1 : Nat) (x1 : Option Addr) (l1 c1 : Nat) (d0 : w.cell? a = some (.string o1)) (d1 : w.cell? ⟨a.block, a.off + 1, none⟩ = some (.float .f64 n1)) (d2 : w.cell? ⟨a.block, a.off + 2, none⟩ = some (.string s1)) (d3 : w.cell? ⟨a.block, a.off + 3, none⟩ = some (.slice x1 l1 c1)) (o2 s2 : ByteArray) (n2 : Nat) (x2 : Option Addr) (l2 c2 : Nat) (d4 : w.cell? ⟨a.block, a.off + 4, none⟩ = some (.string o2)) (d5 : w.cell? ⟨a.block, a.off + 4 + 1, none⟩ = some (.float .f64 n2)) (d6 : w.cell? ⟨a.block, a.off + 4 + 2, none⟩ = some (.string s2)) (d7 : w.cell? ⟨a.block, a.off + 4 + 3, none⟩ = some (.slice x2 l2 c2)) (hx : x = some a) (hN : N = 2) (P Q : Bs) (hP : P.length ≤ 1000000) (hQ : Q.length ≤ 1000000) (HC : Hid (∀ W, Below w.heap.size w W → Calls Tryz.prog 20 #[.agg #[.string o1, .float .f64 n1, .string s1, .slice x1 l1 c1]] W fun e w' => e = .returned (.string (tx P)) ∧ Below W.heap.size W w')) (HCQ : Hid (∀ W, Below w.heap.size w W → Calls Tryz.prog 20 #[.agg #[.string o2, .float .f64 n2, .string s2, .slice x2 l2 c2]] W fun e w' => e = .returned (.string (tx Q)) ∧ Below W.heap.size W w'))
    (tk : Int) (hne : (tk != 2) = false) (HTK : Hid (∀ W, Calls Tryz.prog 33 #[.string (tx op)] W fun e w' => e = .returned (.int .i64 tk) ∧ W = w')) :
    Calls Tryz.prog 20 #[.agg #[.string (tx op), .float .f64 fn, .string (tx s), .slice x N cap]] w fun e w' => e = .returned (.string (tx ([104, 97, 115, 40] ++ P ++ [44, 32] ++ Q ++ [41]))) ∧ Below w.heap.size w w' := by
  subst hx
  subst hN
  have HD := Lib.hid (And.intro d0 (And.intro d1 (And.intro d2 (And.intro d3 (And.intro d4 (And.intro d5 (And.intro d6 (d7))))))))
  have zl0 : (tx P).size ≤ 1000000 := by rw [tx_size' P]; omega
  have zl1 : (tx Q).size ≤ 1000000 := by rw [tx_size' Q]; omega
  have zb2 : 4 + (tx P).size ≤ 9223372036854775807 := by omega
  have zb3 : 4 + (tx P).size ≤ 9223372036854775805 := by omega
  have zb4 : 4 + (tx P).size + 2 + (tx Q).size ≤ 9223372036854775807 := by omega
  have zb5 : 4 + (tx P).size + 2 + (tx Q).size ≤ 9223372036854775806 := by omega
  have zd2 : (9223372036854775807 < 4 + (tx P).size) = False := eq_false (by omega)
  have zd3 : (9223372036854775807 < 4 + (tx P).size + 2) = False := eq_false (by omega)
  have zd4 : (9223372036854775807 < 4 + (tx P).size + 2 + (tx Q).size) = False := eq_false (by omega)
  have zd5 : (9223372036854775807 < 4 + (tx P).size + 2 + (tx Q).size + 1) = False := eq_false (by omega)
  clear zl0
  clear zl1
  have HR : Hid (({ data := #[104, 97, 115, 40] } : ByteArray) ++ tx P ++ ({ data := #[44, 32] } : ByteArray) ++ tx Q ++ ({ data := #[41] } : ByteArray) = tx ([104, 97, 115, 40] ++ P ++ [44, 32] ++ Q ++ [41])) := Lib.hid (by
    rw [show ([104, 97, 115, 40] ++ P ++ [44, 32] ++ Q ++ [41] : Bs) = [104, 97, 115, 40] ++ P ++ [44, 32] ++ Q ++ [41] from rfl]
    show tx [104, 97, 115, 40] ++ tx P ++ tx [44, 32] ++ tx Q ++ tx [41] = _
    rw [tx_app, tx_app, tx_app, tx_app])
  have bn0 : ((tx op).toList == [110, 117, 109]) = false := tx_ne hwnum
  have bn1 : ((tx op).toList == [116, 101, 120, 116]) = false := tx_ne hwtext
  have bn2 : ((tx op).toList == [110, 97, 109, 101]) = false := tx_ne hwname
  have bn3 : ((tx op).toList == [108, 101, 110]) = false := tx_ne hwlen
  have bn4 : ((tx op).toList == [97, 98, 115]) = false := tx_ne hwabs
  have by1 : ((tx op).toList == [104, 97, 115]) = true := tx_is hwhas
  clear hwnum hwtext hwname hwlen hwabs hwhas
  clear d0 d1 d2 d3 d4 d5 d6 d7
  have HB2 := Lib.hid (bel1 w (.cells #[.string (tx op), .float .f64 fn, .string (tx s), .slice (some a) 2 cap] 25))
  have HNB2 : Hid (NB (w.alloc (.cells #[.string (tx op), .float .f64 fn, .string (tx s), .slice (some a) 2 cap] 25)) w.heap.size (.agg #[.string (tx op), .float .f64 fn, .string (tx s), .slice (some a) 2 cap])) := Lib.hid ⟨_, _, _, _, rfl, heap_alloc_new _ _⟩
  go_enter Tryz.func20, Tryz.ntmps20
  go_upto_region 1 with (fail)
  generalize w.alloc (.cells #[.string (tx op), .float .f64 fn, .string (tx s), .slice (some a) 2 cap] 25) = w2 at HB2 HNB2 ⊢
  obtain ⟨p0, p1, p2, p3, _⟩ := HNB2.out.cells
  have hlt := HNB2.out.lt
  have HSS : Hid (∀ W, Below w2.heap.size w2 W → Below w2.heap.size w2 W ∧ W.cell? ⟨w.heap.size, 0, none⟩ = some (.string (tx op)) ∧ W.cell? ⟨w.heap.size, 3, none⟩ = some (.slice (some a) 2 cap) ∧ W.cell? a = some (.string o1) ∧ W.cell? ⟨a.block, a.off + 1, none⟩ = some (.float .f64 n1) ∧ W.cell? ⟨a.block, a.off + 2, none⟩ = some (.string s1) ∧ W.cell? ⟨a.block, a.off + 3, none⟩ = some (.slice x1 l1 c1) ∧ W.cell? ⟨a.block, a.off + 4, none⟩ = some (.string o2) ∧ W.cell? ⟨a.block, a.off + 4 + 1, none⟩ = some (.float .f64 n2) ∧ W.cell? ⟨a.block, a.off + 4 + 2, none⟩ = some (.string s2) ∧ W.cell? ⟨a.block, a.off + 4 + 3, none⟩ = some (.slice x2 l2 c2)) := Lib.hid (fun W hW => by
    have k1 : W.heap[w.heap.size]? = w2.heap[w.heap.size]? := hW.block _ hlt
    have k3 : W.heap[a.block]? = w.heap[a.block]? := (hW.block _ (by omega)).trans (HB2.out.block _ hab)
    exact ⟨hW, cell_same (a := ⟨w.heap.size, 0, none⟩) k1 p0, cell_same (a := ⟨w.heap.size, 3, none⟩) k1 p3, cell_same k3 HD.out.1, cell_same (a := ⟨a.block, a.off + 1, none⟩) k3 HD.out.2.1, cell_same (a := ⟨a.block, a.off + 2, none⟩) k3 HD.out.2.2.1, cell_same (a := ⟨a.block, a.off + 3, none⟩) k3 HD.out.2.2.2.1, cell_same (a := ⟨a.block, a.off + 4, none⟩) k3 HD.out.2.2.2.2.1, cell_same (a := ⟨a.block, a.off + 4 + 1, none⟩) k3 HD.out.2.2.2.2.2.1, cell_same (a := ⟨a.block, a.off + 4 + 2, none⟩) k3 HD.out.2.2.2.2.2.2.1, cell_same (a := ⟨a.block, a.off + 4 + 3, none⟩) k3 HD.out.2.2.2.2.2.2.2⟩)
  have HC2 := Lib.hid (fun W (h : Below w2.heap.size w2 W) => HC.out W (HB2.out.trans (below_le h HB2.out.size)))
  have HC3 := Lib.hid (fun W (h : Below w2.heap.size w2 W) => HCQ.out W (HB2.out.trans (below_le h HB2.out.size)))
  obtain ⟨_, _, _, d0, d1, d2, d3, d4, d5, d6, d7⟩ := HSS.out w2 (Below.refl _ _)
  go_wp2_with (first | (go_at_call 33; refine (HTK.out _).mono ?_; rintro e w1 ⟨rfl, rfl⟩))
  go_region_held3 (fun W => Below w2.heap.size w2 W ∧ W.cell? ⟨w.heap.size, 0, none⟩ = some (.string (tx op)) ∧ W.cell? ⟨w.heap.size, 3, none⟩ = some (.slice (some a) 2 cap) ∧ W.cell? a = some (.string o1) ∧ W.cell? ⟨a.block, a.off + 1, none⟩ = some (.float .f64 n1) ∧ W.cell? ⟨a.block, a.off + 2, none⟩ = some (.string s1) ∧ W.cell? ⟨a.block, a.off + 3, none⟩ = some (.slice x1 l1 c1) ∧ W.cell? ⟨a.block, a.off + 4, none⟩ = some (.string o2) ∧ W.cell? ⟨a.block, a.off + 4 + 1, none⟩ = some (.float .f64 n2) ∧ W.cell? ⟨a.block, a.off + 4 + 2, none⟩ = some (.string s2) ∧ W.cell? ⟨a.block, a.off + 4 + 3, none⟩ = some (.slice x2 l2 c2))
    (first | exact HSS.out _ (Below.refl _ _).drew | exact HSS.out _ HB6.out | exact HSS.out _ HB5.out)
    (first | (go_at_call 20; have HB5' := HB5; (with_reducible refine (HC3.out _ HB5'.out).mono ?_); rintro e w6 ⟨rfl, hb6⟩; have HB6 := Lib.hid (HB5'.out.trans (below_le hb6 HB5'.out.size) : Below w2.heap.size w2 w6); clear hb6 HB5') | (go_at_call 20; (with_reducible refine (HC2.out _ (Below.refl _ _).drew).mono ?_); rintro e w5 ⟨rfl, hb5⟩; have HB5 := Lib.hid ((Below.refl w2.heap.size w2).drew.trans hb5 : Below w2.heap.size w2 w5); clear hb5))
  go_wp2
  go_ret
  exact ⟨ret_str HR.out, HB2.out.trans (below_le HB6.out HB2.out.size)⟩
set_option maxRecDepth 100000 in
set_option maxHeartbeats 8000000 in
theorem rpr_two (op s : Bs) (fn : Nat) (x : Option Addr) (N cap : Nat) (w : World) (hwnum : op ≠ wnum) (hwtext : op ≠ wtext) (hwname : op ≠ wname) (hwlen : op ≠ wlen) (hwabs : op ≠ wabs) (hwhas : op ≠ whas) (hwnot : op ≠ wnot) (hwneg : op ≠ wneg)  (hop : op.length ≤ 4) (a : Addr) (hab : a.block < w.heap.size) (o1 s1 : ByteArray) (n1 : Nat) (x1 : Option Addr) (l1 c1 : Nat) (d0 : w.cell? a = some (.string o1)) (d1 : w.cell? ⟨a.block, a.off + 1, none⟩ = some (.float .f64 n1)) (d2 : w.cell? ⟨a.block, a.off + 2, none⟩ = some (.string s1)) (d3 : w.cell? ⟨a.block, a.off + 3, none⟩ = some (.slice x1 l1 c1)) (o2 s2 : ByteArray) (n2 : Nat) (x2 : Option Addr) (l2 c2 : Nat) (d4 : w.cell? ⟨a.block, a.off + 4, none⟩ = some (.string o2)) (d5 : w.cell? ⟨a.block, a.off + 4 + 1, none⟩ = some (.float .f64 n2)) (d6 : w.cell? ⟨a.block, a.off + 4 + 2, none⟩ = some (.string s2)) (d7 : w.cell? ⟨a.block, a.off + 4 + 3, none⟩ = some (.slice x2 l2 c2)) (hx : x = some a) (hN : N = 2) (P Q : Bs) (hP : P.length ≤ 1000000) (hQ : Q.length ≤ 1000000) (HC : Hid (∀ W, Below w.heap.size w W → Calls Tryz.prog 35 #[.agg #[.string o1, .float .f64 n1, .string s1, .slice x1 l1 c1]] W fun e w' => e = .returned (.string (tx P)) ∧ Below W.heap.size W w')) (HCQ : Hid (∀ W, Below w.heap.size w W → Calls Tryz.prog 35 #[.agg #[.string o2, .float .f64 n2, .string s2, .slice x2 l2 c2]] W fun e w' => e = .returned (.string (tx Q)) ∧ Below W.heap.size W w'))
    (tk : Int) (hne : (tk != 2) = false) (HTK : Hid (∀ W, Calls Tryz.prog 33 #[.string (tx op)] W fun e w' => e = .returned (.int .i64 tk) ∧ W = w')) :
    Calls Tryz.prog 20 #[.agg #[.string (tx op), .float .f64 fn, .string (tx s), .slice x N cap]] w fun e w' => e = .returned (.string (tx (P ++ [32] ++ op ++ [32] ++ Q))) ∧ Below w.heap.size w w' := by
  subst hx
  subst hN
  have HD := Lib.hid (And.intro d0 (And.intro d1 (And.intro d2 (And.intro d3 (And.intro d4 (And.intro d5 (And.intro d6 (d7))))))))
  have zl0 : (tx P).size ≤ 1000000 := by rw [tx_size' P]; omega
  have zl1 : (tx op).size ≤ 1000000 := by rw [tx_size' op]; omega
  have zl2 : (tx Q).size ≤ 1000000 := by rw [tx_size' Q]; omega
  have zb2 : (tx P).size ≤ 9223372036854775806 := by omega
  have zb3 : (tx P).size + 1 + (tx op).size ≤ 9223372036854775807 := by omega
  have zb4 : (tx P).size + 1 + (tx op).size ≤ 9223372036854775806 := by omega
  have zb5 : (tx P).size + 1 + (tx op).size + 1 + (tx Q).size ≤ 9223372036854775807 := by omega
  have zd2 : (9223372036854775807 < (tx P).size + 1) = False := eq_false (by omega)
  have zd3 : (9223372036854775807 < (tx P).size + 1 + (tx op).size) = False := eq_false (by omega)
  have zd4 : (9223372036854775807 < (tx P).size + 1 + (tx op).size + 1) = False := eq_false (by omega)
  have zd5 : (9223372036854775807 < (tx P).size + 1 + (tx op).size + 1 + (tx Q).size) = False := eq_false (by omega)
  clear zl0
  clear zl1
  clear zl2
  have HR : Hid (tx P ++ ({ data := #[32] } : ByteArray) ++ tx op ++ ({ data := #[32] } : ByteArray) ++ tx Q = tx (P ++ [32] ++ op ++ [32] ++ Q)) := Lib.hid (by
    rw [show (P ++ [32] ++ op ++ [32] ++ Q : Bs) = P ++ [32] ++ op ++ [32] ++ Q from rfl]
    show tx P ++ tx [32] ++ tx op ++ tx [32] ++ tx Q = _
    rw [tx_app, tx_app, tx_app, tx_app])
  have bn0 : ((tx op).toList == [110, 117, 109]) = false := tx_ne hwnum
  have bn1 : ((tx op).toList == [116, 101, 120, 116]) = false := tx_ne hwtext
  have bn2 : ((tx op).toList == [110, 97, 109, 101]) = false := tx_ne hwname
  have bn3 : ((tx op).toList == [108, 101, 110]) = false := tx_ne hwlen
  have bn4 : ((tx op).toList == [97, 98, 115]) = false := tx_ne hwabs
  have bn5 : ((tx op).toList == [104, 97, 115]) = false := tx_ne hwhas
  have bn6 : ((tx op).toList == [110, 111, 116]) = false := tx_ne hwnot
  have bn7 : ((tx op).toList == [110, 101, 103]) = false := tx_ne hwneg
  clear hwnum hwtext hwname hwlen hwabs hwhas hwnot hwneg
  clear d0 d1 d2 d3 d4 d5 d6 d7
  have HB2 := Lib.hid (bel1 w (.cells #[.string (tx op), .float .f64 fn, .string (tx s), .slice (some a) 2 cap] 25))
  have HNB2 : Hid (NB (w.alloc (.cells #[.string (tx op), .float .f64 fn, .string (tx s), .slice (some a) 2 cap] 25)) w.heap.size (.agg #[.string (tx op), .float .f64 fn, .string (tx s), .slice (some a) 2 cap])) := Lib.hid ⟨_, _, _, _, rfl, heap_alloc_new _ _⟩
  go_enter Tryz.func20, Tryz.ntmps20
  go_upto_region 1 with (fail)
  generalize w.alloc (.cells #[.string (tx op), .float .f64 fn, .string (tx s), .slice (some a) 2 cap] 25) = w2 at HB2 HNB2 ⊢
  obtain ⟨p0, p1, p2, p3, _⟩ := HNB2.out.cells
  have hlt := HNB2.out.lt
  have HSS : Hid (∀ W, Below w2.heap.size w2 W → Below w2.heap.size w2 W ∧ W.cell? ⟨w.heap.size, 0, none⟩ = some (.string (tx op)) ∧ W.cell? ⟨w.heap.size, 3, none⟩ = some (.slice (some a) 2 cap) ∧ W.cell? a = some (.string o1) ∧ W.cell? ⟨a.block, a.off + 1, none⟩ = some (.float .f64 n1) ∧ W.cell? ⟨a.block, a.off + 2, none⟩ = some (.string s1) ∧ W.cell? ⟨a.block, a.off + 3, none⟩ = some (.slice x1 l1 c1) ∧ W.cell? ⟨a.block, a.off + 4, none⟩ = some (.string o2) ∧ W.cell? ⟨a.block, a.off + 4 + 1, none⟩ = some (.float .f64 n2) ∧ W.cell? ⟨a.block, a.off + 4 + 2, none⟩ = some (.string s2) ∧ W.cell? ⟨a.block, a.off + 4 + 3, none⟩ = some (.slice x2 l2 c2)) := Lib.hid (fun W hW => by
    have k1 : W.heap[w.heap.size]? = w2.heap[w.heap.size]? := hW.block _ hlt
    have k3 : W.heap[a.block]? = w.heap[a.block]? := (hW.block _ (by omega)).trans (HB2.out.block _ hab)
    exact ⟨hW, cell_same (a := ⟨w.heap.size, 0, none⟩) k1 p0, cell_same (a := ⟨w.heap.size, 3, none⟩) k1 p3, cell_same k3 HD.out.1, cell_same (a := ⟨a.block, a.off + 1, none⟩) k3 HD.out.2.1, cell_same (a := ⟨a.block, a.off + 2, none⟩) k3 HD.out.2.2.1, cell_same (a := ⟨a.block, a.off + 3, none⟩) k3 HD.out.2.2.2.1, cell_same (a := ⟨a.block, a.off + 4, none⟩) k3 HD.out.2.2.2.2.1, cell_same (a := ⟨a.block, a.off + 4 + 1, none⟩) k3 HD.out.2.2.2.2.2.1, cell_same (a := ⟨a.block, a.off + 4 + 2, none⟩) k3 HD.out.2.2.2.2.2.2.1, cell_same (a := ⟨a.block, a.off + 4 + 3, none⟩) k3 HD.out.2.2.2.2.2.2.2⟩)
  have HC2 := Lib.hid (fun W (h : Below w2.heap.size w2 W) => HC.out W (HB2.out.trans (below_le h HB2.out.size)))
  have HC3 := Lib.hid (fun W (h : Below w2.heap.size w2 W) => HCQ.out W (HB2.out.trans (below_le h HB2.out.size)))
  obtain ⟨_, _, _, d0, d1, d2, d3, d4, d5, d6, d7⟩ := HSS.out w2 (Below.refl _ _)
  go_wp2_with (first | (go_at_call 33; refine (HTK.out _).mono ?_; rintro e w1 ⟨rfl, rfl⟩))
  go_region_held3 (fun W => Below w2.heap.size w2 W ∧ W.cell? ⟨w.heap.size, 0, none⟩ = some (.string (tx op)) ∧ W.cell? ⟨w.heap.size, 3, none⟩ = some (.slice (some a) 2 cap) ∧ W.cell? a = some (.string o1) ∧ W.cell? ⟨a.block, a.off + 1, none⟩ = some (.float .f64 n1) ∧ W.cell? ⟨a.block, a.off + 2, none⟩ = some (.string s1) ∧ W.cell? ⟨a.block, a.off + 3, none⟩ = some (.slice x1 l1 c1) ∧ W.cell? ⟨a.block, a.off + 4, none⟩ = some (.string o2) ∧ W.cell? ⟨a.block, a.off + 4 + 1, none⟩ = some (.float .f64 n2) ∧ W.cell? ⟨a.block, a.off + 4 + 2, none⟩ = some (.string s2) ∧ W.cell? ⟨a.block, a.off + 4 + 3, none⟩ = some (.slice x2 l2 c2))
    (first | exact HSS.out _ (Below.refl _ _).drew | exact HSS.out _ HB6.out | exact HSS.out _ HB5.out)
    (first | (go_at_call 35; have HB5' := HB5; (with_reducible refine (HC3.out _ HB5'.out).mono ?_); rintro e w6 ⟨rfl, hb6⟩; have HB6 := Lib.hid (HB5'.out.trans (below_le hb6 HB5'.out.size) : Below w2.heap.size w2 w6); clear hb6 HB5') | (go_at_call 35; (with_reducible refine (HC2.out _ (Below.refl _ _).drew).mono ?_); rintro e w5 ⟨rfl, hb5⟩; have HB5 := Lib.hid ((Below.refl w2.heap.size w2).drew.trans hb5 : Below w2.heap.size w2 w5); clear hb5))
  go_wp2
  go_ret
  exact ⟨ret_str HR.out, HB2.out.trans (below_le HB6.out HB2.out.size)⟩
end Go.Proofs.YtfalcmbjjlgoaaaGreatDoor
/- Walks: inner, Print at a tree: the reference's. -/
namespace Go.Proofs.YtfalcmbjjlgoaaaGreatDoor
open Go.RowKit Go.Shelf Ieee Go.Lib
attribute [local go_sem] run_store_float
set_option maxRecDepth 100000 in
set_option maxHeartbeats 8000000 in
theorem rinner (op : Bs) (fn : Nat) (s : ByteArray) (x : Option Addr) (l c : Nat) (r : Bs) (hr : r.length ≤ 1000000) (w : World) (H : PrC 20 w (.agg #[.string (tx op), .float .f64 fn, .string s, .slice x l c]) r) :
    Calls Tryz.prog 35 #[.agg #[.string (tx op), .float .f64 fn, .string s, .slice x l c]] w fun e w' => e = .returned (.string (tx (parS op r))) ∧ Below w.heap.size w w' := by
  have HB0 := Lib.hid (bel1 w (.cells #[.string (tx op), .float .f64 fn, .string s, .slice x l c] 25))
  have HNB : Hid (NB (w.alloc (.cells #[.string (tx op), .float .f64 fn, .string s, .slice x l c] 25)) w.heap.size (.agg #[.string (tx op), .float .f64 fn, .string s, .slice x l c])) := Lib.hid ⟨_, _, _, _, rfl, heap_alloc_new _ _⟩
  have HH := Lib.hid H
  clear H
  have z1 : (tx r).size = r.length := tx_size' r
  have z2 : (({ data := #[40] } : ByteArray) ++ tx r).size = r.length + 1 := by
    show (tx [40] ++ tx r).size = _
    rw [tx_app, tx_size']; simp
  by_cases q0 : op = wnum
  · have b0 : ((tx op).toList == [110, 117, 109]) = true := tx_is q0
    have HR : Hid (parS op r = r) := Lib.hid (by unfold parS aloneB; simp [q0])
    clear q0
    go_enter Tryz.func35, Tryz.ntmps35
    go_upto_region 1 with (fail)
    generalize w.alloc (.cells #[.string (tx op), .float .f64 fn, .string s, .slice x l c] 25) = W0 at HB0 HNB ⊢
    obtain ⟨p0, p1, p2, p3, _⟩ := HNB.out.cells
    have hlt := HNB.out.lt
    have HC := Lib.hid (HH.out W0 HB0.out)
    go_wp2_with (first | (go_at_call 20; fail))
    go_at_call 20
    refine HC.out.mono ?_
    rintro e w2 ⟨rfl, hb2⟩
    have HB2 := Lib.hid (HB0.out.trans (below_le hb2 HB0.out.size))
    clear hb2
    go_wp2
    go_ret
    exact ⟨by rw [HR.out]; rfl, HB2.out⟩
  · have b0 : ((tx op).toList == [110, 117, 109]) = false := tx_ne q0
    by_cases q1 : op = wtext
    · have b1 : ((tx op).toList == [116, 101, 120, 116]) = true := tx_is q1
      have HR : Hid (parS op r = r) := Lib.hid (by unfold parS aloneB; simp [q1])
      clear q0 q1
      go_enter Tryz.func35, Tryz.ntmps35
      go_upto_region 1 with (fail)
      generalize w.alloc (.cells #[.string (tx op), .float .f64 fn, .string s, .slice x l c] 25) = W0 at HB0 HNB ⊢
      obtain ⟨p0, p1, p2, p3, _⟩ := HNB.out.cells
      have hlt := HNB.out.lt
      have HC := Lib.hid (HH.out W0 HB0.out)
      go_wp2_with (first | (go_at_call 20; fail))
      go_at_call 20
      refine HC.out.mono ?_
      rintro e w2 ⟨rfl, hb2⟩
      have HB2 := Lib.hid (HB0.out.trans (below_le hb2 HB0.out.size))
      clear hb2
      go_wp2
      go_ret
      exact ⟨by rw [HR.out]; rfl, HB2.out⟩
    · have b1 : ((tx op).toList == [116, 101, 120, 116]) = false := tx_ne q1
      by_cases q2 : op = wname
      · have b2 : ((tx op).toList == [110, 97, 109, 101]) = true := tx_is q2
        have HR : Hid (parS op r = r) := Lib.hid (by unfold parS aloneB; simp [q2])
        clear q0 q1 q2
        go_enter Tryz.func35, Tryz.ntmps35
        go_upto_region 1 with (fail)
        generalize w.alloc (.cells #[.string (tx op), .float .f64 fn, .string s, .slice x l c] 25) = W0 at HB0 HNB ⊢
        obtain ⟨p0, p1, p2, p3, _⟩ := HNB.out.cells
        have hlt := HNB.out.lt
        have HC := Lib.hid (HH.out W0 HB0.out)
        go_wp2_with (first | (go_at_call 20; fail))
        go_at_call 20
        refine HC.out.mono ?_
        rintro e w2 ⟨rfl, hb2⟩
        have HB2 := Lib.hid (HB0.out.trans (below_le hb2 HB0.out.size))
        clear hb2
        go_wp2
        go_ret
        exact ⟨by rw [HR.out]; rfl, HB2.out⟩
      · have b2 : ((tx op).toList == [110, 97, 109, 101]) = false := tx_ne q2
        by_cases q3 : op = wlen
        · have b3 : ((tx op).toList == [108, 101, 110]) = true := tx_is q3
          have HR : Hid (parS op r = r) := Lib.hid (by unfold parS aloneB; simp [q3])
          clear q0 q1 q2 q3
          go_enter Tryz.func35, Tryz.ntmps35
          go_upto_region 1 with (fail)
          generalize w.alloc (.cells #[.string (tx op), .float .f64 fn, .string s, .slice x l c] 25) = W0 at HB0 HNB ⊢
          obtain ⟨p0, p1, p2, p3, _⟩ := HNB.out.cells
          have hlt := HNB.out.lt
          have HC := Lib.hid (HH.out W0 HB0.out)
          go_wp2_with (first | (go_at_call 20; fail))
          go_at_call 20
          refine HC.out.mono ?_
          rintro e w2 ⟨rfl, hb2⟩
          have HB2 := Lib.hid (HB0.out.trans (below_le hb2 HB0.out.size))
          clear hb2
          go_wp2
          go_ret
          exact ⟨by rw [HR.out]; rfl, HB2.out⟩
        · have b3 : ((tx op).toList == [108, 101, 110]) = false := tx_ne q3
          by_cases q4 : op = wabs
          · have b4 : ((tx op).toList == [97, 98, 115]) = true := tx_is q4
            have HR : Hid (parS op r = r) := Lib.hid (by unfold parS aloneB; simp [q4])
            clear q0 q1 q2 q3 q4
            go_enter Tryz.func35, Tryz.ntmps35
            go_upto_region 1 with (fail)
            generalize w.alloc (.cells #[.string (tx op), .float .f64 fn, .string s, .slice x l c] 25) = W0 at HB0 HNB ⊢
            obtain ⟨p0, p1, p2, p3, _⟩ := HNB.out.cells
            have hlt := HNB.out.lt
            have HC := Lib.hid (HH.out W0 HB0.out)
            go_wp2_with (first | (go_at_call 20; fail))
            go_at_call 20
            refine HC.out.mono ?_
            rintro e w2 ⟨rfl, hb2⟩
            have HB2 := Lib.hid (HB0.out.trans (below_le hb2 HB0.out.size))
            clear hb2
            go_wp2
            go_ret
            exact ⟨by rw [HR.out]; rfl, HB2.out⟩
          · have b4 : ((tx op).toList == [97, 98, 115]) = false := tx_ne q4
            by_cases q5 : op = whas
            · have b5 : ((tx op).toList == [104, 97, 115]) = true := tx_is q5
              have HR : Hid (parS op r = r) := Lib.hid (by unfold parS aloneB; simp [q5])
              clear q0 q1 q2 q3 q4 q5
              go_enter Tryz.func35, Tryz.ntmps35
              go_upto_region 1 with (fail)
              generalize w.alloc (.cells #[.string (tx op), .float .f64 fn, .string s, .slice x l c] 25) = W0 at HB0 HNB ⊢
              obtain ⟨p0, p1, p2, p3, _⟩ := HNB.out.cells
              have hlt := HNB.out.lt
              have HC := Lib.hid (HH.out W0 HB0.out)
              go_wp2_with (first | (go_at_call 20; fail))
              go_at_call 20
              refine HC.out.mono ?_
              rintro e w2 ⟨rfl, hb2⟩
              have HB2 := Lib.hid (HB0.out.trans (below_le hb2 HB0.out.size))
              clear hb2
              go_wp2
              go_ret
              exact ⟨by rw [HR.out]; rfl, HB2.out⟩
            · have b5 : ((tx op).toList == [104, 97, 115]) = false := tx_ne q5
              have HR : Hid (({ data := #[40] } : ByteArray) ++ tx r ++ ({ data := #[41] } : ByteArray) = tx (parS op r)) := Lib.hid (by
                have hal : aloneB op = false := by unfold aloneB; simp [q0, q1, q2, q3, q4, q5]
                unfold parS; rw [if_neg (by rw [hal]; decide)]
                show tx [40] ++ tx r ++ tx [41] = _
                rw [tx_app, tx_app])
              clear q0 q1 q2 q3 q4 q5
              go_enter Tryz.func35, Tryz.ntmps35
              go_upto_region 1 with (fail)
              generalize w.alloc (.cells #[.string (tx op), .float .f64 fn, .string s, .slice x l c] 25) = W0 at HB0 HNB ⊢
              obtain ⟨p0, p1, p2, p3, _⟩ := HNB.out.cells
              have hlt := HNB.out.lt
              have HC := Lib.hid (HH.out W0 HB0.out)
              go_wp2_with (first | (go_at_call 20; fail))
              go_at_call 20
              refine HC.out.mono ?_
              rintro e w2 ⟨rfl, hb2⟩
              have HB2 := Lib.hid (HB0.out.trans (below_le hb2 HB0.out.size))
              clear hb2
              go_wp2
              go_ret
              exact ⟨ret_str HR.out, HB2.out⟩
/-- What Print and part give at a child, its text being r. -/
def KidR (w : World) (v : Value) (op r : Bs) : Prop := r.length ≤ 900000 ∧ (∀ W, Below w.heap.size w W → Calls Tryz.prog 20 #[v] W fun e w' => e = .returned (.string (tx r)) ∧ Below W.heap.size W w') ∧ (∀ W, Below w.heap.size w W → Calls Tryz.prog 35 #[v] W fun e w' => e = .returned (.string (tx (parS op r))) ∧ Below W.heap.size W w')
theorem kidR_of {w : World} {op r : Bs} {n1 : Nat} {s1 : ByteArray} {x1 : Option Addr} {l1 c1 : Nat} (hr : r.length ≤ 900000) (h : ∀ W, Below w.heap.size w W → Calls Tryz.prog 20 #[.agg #[.string (tx op), .float .f64 n1, .string s1, .slice x1 l1 c1]] W fun e w' => e = .returned (.string (tx r)) ∧ Below W.heap.size W w') :
    KidR w (.agg #[.string (tx op), .float .f64 n1, .string s1, .slice x1 l1 c1]) op r :=
  ⟨hr, h, fun W hW => rinner op n1 s1 x1 l1 c1 r (by omega) W (fun W2 h2 => h W2 (hW.trans (below_le h2 hW.size)))⟩
set_option maxRecDepth 100000 in
set_option maxHeartbeats 1000000 in
theorem rpr_kid1 (op s : Bs) (fn : Nat) (a : Addr) (cap : Nat) (w : World) (hk : takesT op = some 1) (h0 : op ≠ wnum) (h1 : op ≠ wtext) (h2 : op ≠ wname) (o0 r0 : Bs) (hab : a.block < w.heap.size)
    (o1 s1 : ByteArray) (n1 : Nat) (x1 : Option Addr) (l1 c1 : Nat) (e0 : w.cell? a = some (.string o1)) (e1 : w.cell? ⟨a.block, a.off + 1, none⟩ = some (.float .f64 n1)) (e2 : w.cell? ⟨a.block, a.off + 2, none⟩ = some (.string s1)) (e3 : w.cell? ⟨a.block, a.off + 3, none⟩ = some (.slice x1 l1 c1))
    (K : KidR w (.agg #[.string o1, .float .f64 n1, .string s1, .slice x1 l1 c1]) o0 r0)
    (tk : Int) (hne : (tk != 1) = false) (HTK : Hid (∀ W, Calls Tryz.prog 33 #[.string (tx op)] W fun e w' => e = .returned (.int .i64 tk) ∧ W = w')) :
    Calls Tryz.prog 20 #[.agg #[.string (tx op), .float .f64 fn, .string (tx s), .slice (some a) 1 cap]] w fun e w' => e = .returned (.string (tx (if op = wnot then [110, 111, 116, 32] ++ parS o0 r0 else if op = wneg then [45] ++ parS o0 r0 else op ++ [40] ++ r0 ++ [41]))) ∧ Below w.heap.size w w' := by
  obtain ⟨hr, k1, k2⟩ := K
  have hl1 := parS_len o0 r0
  rcases takes_12' hk h0 h1 h2 with ⟨_, ho⟩ | ⟨hl, _⟩
  · rcases ho with ho | ho | ho | ho
    · rw [if_pos ho]
      have h5 : op ≠ wlen := by rw [ho]; decide
      have h6 : op ≠ wabs := by rw [ho]; decide
      have h7 : op ≠ whas := by rw [ho]; decide
      exact rpr_not op s fn _ 1 cap w h0 h1 h2 h5 h6 h7 ho a hab o1 s1 n1 x1 l1 c1 e0 e1 e2 e3 rfl rfl _ (by omega) (Lib.hid k2) tk hne HTK
    · have h3 : op ≠ wnot := by rw [ho]; decide
      rw [if_neg h3, if_pos ho]
      have h5 : op ≠ wlen := by rw [ho]; decide
      have h6 : op ≠ wabs := by rw [ho]; decide
      have h7 : op ≠ whas := by rw [ho]; decide
      exact rpr_neg op s fn _ 1 cap w h0 h1 h2 h5 h6 h7 h3 ho a hab o1 s1 n1 x1 l1 c1 e0 e1 e2 e3 rfl rfl _ (by omega) (Lib.hid k2) tk hne HTK
    · have h3 : op ≠ wnot := by rw [ho]; decide
      have h4 : op ≠ wneg := by rw [ho]; decide
      rw [if_neg h3, if_neg h4]
      exact rpr_len op s fn _ 1 cap w h0 h1 h2 ho a hab o1 s1 n1 x1 l1 c1 e0 e1 e2 e3 rfl rfl _ (by omega) (Lib.hid k1) tk hne HTK
    · have h3 : op ≠ wnot := by rw [ho]; decide
      have h4 : op ≠ wneg := by rw [ho]; decide
      have h5 : op ≠ wlen := by rw [ho]; decide
      rw [if_neg h3, if_neg h4]
      exact rpr_abs op s fn _ 1 cap w h0 h1 h2 h5 ho a hab o1 s1 n1 x1 l1 c1 e0 e1 e2 e3 rfl rfl _ (by omega) (Lib.hid k1) tk hne HTK
  · cases hl
set_option maxRecDepth 100000 in
set_option maxHeartbeats 1000000 in
theorem rpr_kid2 (op s : Bs) (fn : Nat) (a : Addr) (cap : Nat) (w : World) (hk : takesT op = some 2) (h0 : op ≠ wnum) (h1 : op ≠ wtext) (h2 : op ≠ wname) (o0 r0 o9 r9 : Bs) (hab : a.block < w.heap.size)
    (o1 s1 : ByteArray) (n1 : Nat) (x1 : Option Addr) (l1 c1 : Nat) (e0 : w.cell? a = some (.string o1)) (e1 : w.cell? ⟨a.block, a.off + 1, none⟩ = some (.float .f64 n1)) (e2 : w.cell? ⟨a.block, a.off + 2, none⟩ = some (.string s1)) (e3 : w.cell? ⟨a.block, a.off + 3, none⟩ = some (.slice x1 l1 c1))
    (o2 s2 : ByteArray) (n2 : Nat) (x2 : Option Addr) (l2 c2 : Nat) (e4 : w.cell? ⟨a.block, a.off + 4, none⟩ = some (.string o2)) (e5 : w.cell? ⟨a.block, a.off + 4 + 1, none⟩ = some (.float .f64 n2)) (e6 : w.cell? ⟨a.block, a.off + 4 + 2, none⟩ = some (.string s2)) (e7 : w.cell? ⟨a.block, a.off + 4 + 3, none⟩ = some (.slice x2 l2 c2))
    (K : KidR w (.agg #[.string o1, .float .f64 n1, .string s1, .slice x1 l1 c1]) o0 r0) (K2 : KidR w (.agg #[.string o2, .float .f64 n2, .string s2, .slice x2 l2 c2]) o9 r9)
    (tk : Int) (hne : (tk != 2) = false) (HTK : Hid (∀ W, Calls Tryz.prog 33 #[.string (tx op)] W fun e w' => e = .returned (.int .i64 tk) ∧ W = w')) :
    Calls Tryz.prog 20 #[.agg #[.string (tx op), .float .f64 fn, .string (tx s), .slice (some a) 2 cap]] w fun e w' => e = .returned (.string (tx (if op = whas then [104, 97, 115, 40] ++ r0 ++ [44, 32] ++ r9 ++ [41] else parS o0 r0 ++ [32] ++ op ++ [32] ++ parS o9 r9))) ∧ Below w.heap.size w w' := by
  obtain ⟨hr, k1, k2⟩ := K
  obtain ⟨hr9, k3, k4⟩ := K2
  have hl1 := parS_len o0 r0
  have hl3 := parS_len o9 r9
  rcases takes_12' hk h0 h1 h2 with ⟨hl, _⟩ | ⟨_, hn1, hn2, hn3, hn4⟩
  · cases hl
  · by_cases h7 : op = whas
    · rw [if_pos h7]
      exact rpr_has op s fn _ 2 cap w h0 h1 h2 hn3 hn4 h7 a hab o1 s1 n1 x1 l1 c1 e0 e1 e2 e3 o2 s2 n2 x2 l2 c2 e4 e5 e6 e7 rfl rfl _ _ (by omega) (by omega) (Lib.hid k1) (Lib.hid k3) tk hne HTK
    · rw [if_neg h7]
      exact rpr_two op s fn _ 2 cap w h0 h1 h2 hn3 hn4 h7 hn1 hn2 (takes_len hk) a hab o1 s1 n1 x1 l1 c1 e0 e1 e2 e3 o2 s2 n2 x2 l2 c2 e4 e5 e6 e7 rfl rfl _ _ (by omega) (by omega) (Lib.hid k2) (Lib.hid k4) tk hne HTK
set_option maxRecDepth 100000 in
set_option maxHeartbeats 1000000 in
theorem rPrint : ∀ (n : Nat) (t : Tree), szT t ≤ n → ∀ (A : Nat → Prop) (v : Value) (w : World), lenT t ≤ 900000 → NodeV A w v t →
    Calls Tryz.prog 20 #[v] w fun e w' => e = .returned (.string (tx (prtT numT t))) ∧ Below w.heap.size w w' := by
  intro n
  induction n with
  | zero => intro t h; cases t; simp only [szT] at h; omega
  | succ n ih =>
    intro t hn A v w hd hv
    have hv0 := hv
    obtain ⟨op, fn, s, l⟩ := t
    obtain ⟨x, cap, rfl, hcap, hx, hch⟩ := hv
    have hszl : szL l ≤ n := by simp only [szT] at hn; omega
    have HTK := Lib.hid (fun W => rtakes op W)
    have htk : ∀ k, takesT op = some k → takesR op = (k : Int) := fun k h => by unfold takesR; rw [h]
    have htk2 : takesT op ≠ some l.length → (takesR op != (l.length : Int)) = true := fun h => by
      unfold takesR
      cases q : takesT op with
      | none => rw [bne_iff_ne]; simp only; omega
      | some k => rw [bne_iff_ne]; intro e; exact h (by rw [q]; congr 1; simp only at e; omega)
    generalize takesR op = tk at HTK htk htk2
    by_cases hk : takesT op = some l.length
    · have hne : (tk != (l.length : Int)) = false := by rw [htk _ hk]; simp
      by_cases h0 : op = wnum
      · rw [prt_num hk h0]; exact rpr_num op s fn x _ cap w h0 tk hne HTK
      · by_cases h1 : op = wtext
        · rw [prt_text hk h0 h1]; exact rpr_text op s fn x _ cap w h0 h1 (by simp only [lenT] at hd; omega) tk hne HTK
        · by_cases h2 : op = wname
          · rw [prt_name hk h0 h1 h2]; exact rpr_name op s fn x _ cap w h0 h1 h2 tk hne HTK
          · have kid : ∀ (t0 : Tree) (o1 s1 : ByteArray) (n1 : Nat) (x1 : Option Addr) (l1 c1 : Nat), szT t0 ≤ n → lenT t0 ≤ 900000 → NodeV A w (.agg #[.string o1, .float .f64 n1, .string s1, .slice x1 l1 c1]) t0 → KidR w (.agg #[.string o1, .float .f64 n1, .string s1, .slice x1 l1 c1]) t0.op (prtT numT t0) := fun t0 o1 s1 n1 x1 l1 c1 g1 g2 g3 => by
              have hP : ∀ W, Below w.heap.size w W → Calls Tryz.prog 20 #[.agg #[.string o1, .float .f64 n1, .string s1, .slice x1 l1 c1]] W fun e w' => e = .returned (.string (tx (prtT numT t0))) ∧ Below W.heap.size W w' := fun W hW => ih t0 g1 A _ W g2 (g3.below hW)
              have hl := Nat.le_trans (prt_len numT_len t0) g2
              have ho := g3.op
              generalize prtT numT t0 = r at hP hl ⊢
              subst ho
              exact kidR_of hl hP
            rcases takes_12' hk h0 h1 h2 with ⟨hl, _⟩ | ⟨hl, _⟩
            · obtain ⟨t0, rfl⟩ := len1 hl
              · obtain ⟨a, rfl⟩ : ∃ a, x = some a := by
                  cases x with
                  | none => have := hx rfl; cases this
                  | some a => exact ⟨a, rfl⟩
                obtain ⟨hab, hns⟩ := hch a rfl
                obtain ⟨o1, n1, s1, x1, l1, c1, e0, e1, e2, e3, hnode⟩ := kid1 hns
                simp only [szL] at hszl
                simp only [lenT, lenL] at hd
                have K := kid t0 o1 s1 n1 x1 l1 c1 (by omega) (by omega) hnode
                rw [prt_one hk h0 h1 h2]
                generalize prtT numT t0 = r0 at K ⊢
                exact rpr_kid1 op s fn a cap w hk h0 h1 h2 t0.op r0 (hab (by intro e; cases e)).2 o1 s1 n1 x1 l1 c1 e0 e1 e2 e3 K tk hne HTK
            · obtain ⟨t0, t1, rfl⟩ := len2 hl
              · obtain ⟨a, rfl⟩ : ∃ a, x = some a := by
                  cases x with
                  | none => have := hx rfl; cases this
                  | some a => exact ⟨a, rfl⟩
                obtain ⟨hab, hns⟩ := hch a rfl
                obtain ⟨o1, n1, s1, x1, l1, c1, e0, e1, e2, e3, hnode⟩ := kid1 hns
                obtain ⟨o2, n2, s2, x2, l2, c2, e4, e5, e6, e7, hnode2⟩ := kid2 hns
                simp only [szL] at hszl
                simp only [lenT, lenL] at hd
                have K := kid t0 o1 s1 n1 x1 l1 c1 (by omega) (by omega) hnode
                have K2 := kid t1 o2 s2 n2 x2 l2 c2 (by omega) (by omega) hnode2
                rw [prt_two hk h0 h1 h2]
                generalize prtT numT t0 = r0 at K ⊢
                generalize prtT numT t1 = r9 at K2 ⊢
                exact rpr_kid2 op s fn a cap w hk h0 h1 h2 t0.op r0 t1.op r9 (hab (by intro e; cases e)).2 o1 s1 n1 x1 l1 c1 e0 e1 e2 e3 o2 s2 n2 x2 l2 c2 e4 e5 e6 e7 K K2 tk hne HTK
    · have hne := htk2 hk
      rw [prt_bad hk]
      exact rpr_bad op s fn x _ cap w tk hne HTK
end Go.Proofs.YtfalcmbjjlgoaaaGreatDoor
/- Walk: the names of a tree, one behind the other. -/
namespace Go.Proofs.YtfalcmbjjlgoaaaGreatDoor
open Go.RowKit Go.Shelf
attribute [local go_sem] run_store_float
mutual
theorem namT_len : ∀ t : Tree, (namT t).length ≤ szT t
  | .mk op n s c => by
    have := namL_len c
    simp only [namT, szT, List.length_append]
    split <;> simp <;> omega
theorem namL_len : ∀ c : List Tree, (namL c).length ≤ szL c
  | [] => by simp [namL]
  | t :: r => by
    have := namT_len t
    have := namL_len r
    simp only [namL, szL, List.length_append]
    omega
end
theorem namL_app (a b : List Tree) : namL (a ++ b) = namL a ++ namL b := by
  induction a with
  | nil => simp [namL]
  | cons t r ih => simp only [List.cons_append, namL, ih, List.append_assoc]
theorem namL_snoc (c : List Tree) (t : Tree) : namL (c ++ [t]) = namL c ++ namT t := by rw [namL_app]; simp [namL]
theorem szL_take (l : List Tree) (j : Nat) : szL (l.take j) ≤ szL l := by
  induction l generalizing j with
  | nil => simp
  | cons t r ih =>
    cases j with
    | zero => simp [szL]
    | succ j => simp only [List.take_succ_cons, szL]; have := ih j; omega
theorem szL_split {l : List Tree} {j : Nat} (h : j < l.length) : szL (l.take j) + szT l[j] ≤ szL l := by
  induction l generalizing j with
  | nil => cases h
  | cons t r ih =>
    cases j with
    | zero => simp only [List.take_zero, szL, List.getElem_cons_zero]; omega
    | succ j => simp only [List.take_succ_cons, szL, List.getElem_cons_succ]; have := ih (j := j) (by simpa using h); omega
theorem strs_app (A B : List Bs) : strs (A ++ B) = strs A ++ strs B := by simp [strs]
/-- The tree is kept where all below B is. -/
theorem NodeV.low {B : Nat} {w w' : World} {v : Value} {t : Tree} (h : NodeV (fun b => b < B) w v t) (hb : Below B w w') : NodeV (fun b => b < B) w' v t :=
  NodeV.kept hb.size (fun b h1 _ => ⟨h1, hb.block b h1⟩) t v h
/-- What a tree's first names are. -/
def ownN (op s : Bs) : List Bs := if op = wname then [s] else []
set_option maxRecDepth 100000 in
set_option maxHeartbeats 8000000 in
theorem wcollect (B : Nat) : ∀ (n : Nat) (t : Tree), szT t ≤ n → ∀ (v u : Value) (L : List Bs) (w : World), B ≤ w.heap.size → L.length + szT t ≤ 2000000 → NodeV (fun b => b < B) w v t → w.ownsRow B 9 1 u L.length (strs L) →
    Calls Tryz.prog 30 #[u, v] w fun e w' => ∃ u', e = .returned u' ∧ w'.ownsRow B 9 1 u' (L ++ namT t).length (strs (L ++ namT t)) ∧ Below B w w' := by
  intro n
  induction n with
  | zero => intro t h; cases t; simp only [szT] at h; omega
  | succ n ih =>
    intro t hn v u L w hB hd hv hu
    obtain ⟨op, fn, s, l⟩ := t
    obtain ⟨kx, kc, rfl⟩ := ownsRow_is hu
    obtain ⟨x, cap, rfl, hcap, hx, hch⟩ := hv
    have HIH := Lib.hid ih
    have HN := Lib.hid (show szL l ≤ n by simp only [szT] at hn; omega)
    have HD := Lib.hid (show L.length + 1 + szL l ≤ 2000000 by simp only [szT] at hd; omega)
    have HC := Lib.hid hch
    have hll : l.length ≤ 2000000 := by have := len_szL l; have := HD.out; omega
    have HX := Lib.hid hx
    have HRES : Hid (L ++ namT (.mk op fn s l) = (L ++ ownN op s) ++ namL l) := Lib.hid (by simp only [namT, ownN, List.append_assoc])
    have HOL : Hid ((L ++ ownN op s).length ≤ L.length + 1) := Lib.hid (by unfold ownN; split <;> simp)
    obtain ⟨R, hR⟩ : ∃ R, R = L ++ namT (.mk op fn s l) := ⟨_, rfl⟩
    rw [← hR] at HRES ⊢
    obtain ⟨N, hN⟩ : ∃ N, N = l.length := ⟨_, rfl⟩
    rw [← hN] at hll hcap ⊢
    have HNL := Lib.hid hN
    have HB0 := Lib.hid ((Below.refl B w).alloc hB (.cells #[.string (tx op), .float .f64 fn, .string (tx s), .slice x N cap] 25))
    have HA0 : Hid (NB (w.alloc (.cells #[.string (tx op), .float .f64 fn, .string (tx s), .slice x N cap] 25)) w.heap.size (.agg #[.string (tx op), .float .f64 fn, .string (tx s), .slice x N cap])) := Lib.hid ⟨_, _, _, _, rfl, heap_alloc_new _ _⟩
    have HOLT : Hid (∀ k, (Value.slice kx L.length kc).ownBlock = some k → B ≤ k ∧ k < w.heap.size) := Lib.hid (fun k e => hu.lt k e)
    have HO0 : Hid ((w.alloc (.cells #[.string (tx op), .float .f64 fn, .string (tx s), .slice x N cap] 25)).ownsRow B 9 1 (.slice kx L.length kc) L.length (strs L)) := Lib.hid (hu.alloc _)
    have HBW := Lib.hid hB
    obtain ⟨i0, hi, hi0, hi1, hi2⟩ := info_parts9
    have HII := Lib.hid (And.intro hi (And.intro hi0 (And.intro hi1 hi2)))
    obtain ⟨M, hM⟩ : ∃ M, M = L.length := ⟨_, rfl⟩
    have HM := Lib.hid hM
    rw [← hM] at HO0 HOLT ⊢
    have hmm : M ≤ 2000000 := by have := HD.out; have := HM.out; omega
    clear hN hn hd hch hx ih hR hu hi hi0 hi1 hi2 hM hB
    go_enter Tryz.func30, Tryz.ntmps30
    go_upto_region 1 with (fail)
    generalize hW0 : (w.alloc (.cells #[.string (tx op), .float .f64 fn, .string (tx s), .slice x N cap] 25)) = W0 at HB0 HA0 HO0 ⊢
    have HSZ0 : Hid (W0.heap.size = w.heap.size + 1) := Lib.hid (by rw [← hW0]; simp)
    clear hW0
    have hbw := HBW.out
    obtain ⟨p0, p1, p2, p3, _⟩ := HA0.out.cells
    have hlt := HA0.out.lt
    obtain ⟨tb, htb⟩ : ∃ tb, ((tx op).toList == [110, 97, 109, 101]) = tb := ⟨_, rfl⟩
    have HTB : Hid (tb = decide (op = wname)) := Lib.hid (by
      rw [← htb]
      by_cases q : op = wname
      · rw [decide_eq_true q, tx_toList, q]; rfl
      · rw [decide_eq_false q]; exact tx_ne q)
    go_upto_if 9 with (fail)
    go_cut [0] (fun o wx => Hid (wx.ownsRow B 9 1 o (L ++ ownN op s).length (strs (L ++ ownN op s))) ∧ Hid (NB wx w.heap.size (.agg #[.string (tx op), .float .f64 fn, .string (tx s), .slice x N cap])) ∧ Hid (Below B w wx))
    case first =>
      clear htb
      cases tb with
      | true =>
        obtain rfl : op = wname := of_decide_eq_true HTB.out.symm
        have HLE : Hid (L ++ ownN wname s = L ++ [s]) := Lib.hid (by unfold ownN; rw [if_pos rfl])
        go_wp2_with (at_builtin; go_loud (refine wpList_append_own _ rfl _ _ 44 rfl B 9 i0 (.string ⟨#[]⟩) 1 16 Tryz.underlying44 HII.out.1 HII.out.2.1 HII.out.2.2.1 HII.out.2.2.2 rfl (by decide) _ _ _ rfl (HO0.out.alloc _) ⟨W0.heap.size, 0, none⟩ 1 1 [.string (tx s)] rfl rfl (cell_one_new _ _ _) (by simp [Value.oneCell']) (by unfold maxLen; omega) (by omega) (by have := HSZ0.out; simp; omega) ?_))
        intro v' w3 ho1 hg1 _
        have HO3 : Hid (w3.ownsRow B 9 1 v' (L ++ ownN wname s).length (strs (L ++ ownN wname s))) := Lib.hid (by
          rw [HLE.out, List.length_append, strs_app, ← HM.out]; exact ho1)
        have HB3 : Hid (Below B w w3) := Lib.hid ((HB0.out.alloc (by have := HSZ0.out; omega) (.cells #[.string (tx s)] 9)).grown hg1 (by have := HSZ0.out; simp; omega) (fun k e => (HOLT.out k e).1))
        have HA3 : Hid (NB w3 w.heap.size (.agg #[.string (tx wname), .float .f64 fn, .string (tx s), .slice x N cap])) := Lib.hid ((HA0.out.below ((Below.refl _ _).alloc (Nat.le_refl _) (.cells #[.string (tx s)] 9))).kept (hg1.block w.heap.size (by have := HSZ0.out; simp; omega) (fun e => by have := (HOLT.out _ e.symm).2; omega)))
        clear ho1 hg1 p0 p1 p2 p3 hlt
        go_wp2
        go_meet
        exact ⟨HO3, HA3, HB3⟩
      | false =>
        have q : op ≠ wname := of_decide_eq_false HTB.out.symm
        have HO3 : Hid (W0.ownsRow B 9 1 (.slice kx M kc) (L ++ ownN op s).length (strs (L ++ ownN op s))) := Lib.hid (by
          unfold ownN; rw [if_neg q, List.append_nil, ← HM.out]; exact HO0.out)
        go_wp2
        go_meet
        exact ⟨HO3, HA0, HB0⟩
    obtain ⟨HO1, HA1, HB1⟩ := hcut
    clear p0 p1 p2 p3 hlt HO0 HA0 HB0 HOLT htb HTB HSZ0
    obtain ⟨PP, hPP⟩ : ∃ PP, PP = L ++ ownN op s := ⟨_, rfl⟩
    rw [← hPP] at HRES HOL HO1
    rename World => w1
    obtain ⟨p0, p1, p2, p3, _⟩ := HA1.out.cells
    have hlt := HA1.out.lt
    have HPL : Hid (PP.length + szL l ≤ 2000000) := Lib.hid (by have := HD.out; have := HOL.out; omega)
    clear hPP HM hmm HD HOL
    go_wp2_with fail
    go_loopg [0, 18] N (fun gh o i wr => ∃ j K : Nat, j + gh = N ∧ i = .int .i64 j ∧ Hid (K = (PP ++ namL (l.take j)).length) ∧ Hid (wr.ownsRow B 9 1 o K (strs (PP ++ namL (l.take j)))) ∧ Hid (Below B w wr))
    case atStart => exact ⟨0, PP.length, by omega, rfl, Lib.hid (by simp [namL]), Lib.hid (by simpa [namL] using HO1.out), HB1⟩
    case round =>
      obtain ⟨j, K, hj, rfl, HKK, HO, HB⟩ := hrel
      obtain ⟨qx, qc, rfl⟩ := ownsRow_is HO.out
      clear HO1 HA1 HB1 p0 p1 p2 p3 hlt
      by_cases q : j < N
      · have hjl : j < l.length := by have := HNL.out; omega
        obtain ⟨a, rfl⟩ : ∃ a, x = some a := by
          cases x with
          | none => have := HX.out rfl; rw [this] at hjl; cases hjl
          | some a => exact ⟨a, rfl⟩
        obtain ⟨u0, u1, u2, u3, d0, d1, d2, d3, hnode⟩ := NodesV.get l 0 (HC.out a rfl).2 j hjl
        rw [Nat.zero_add] at d0 d1 d2 d3
        have hab : a.block < B := ((HC.out a rfl).1 (nil_not hjl)).1
        have hs : ∀ k, wr.heap[(a.add k).block]? = w.heap[(a.add k).block]? := fun k => by rw [add_block]; exact HB.out.block _ hab
        replace d0 := cell_same (hs _) d0
        replace d1 := cell_same (hs _) d1
        replace d2 := cell_same (hs _) d2
        replace d3 := cell_same (hs _) d3
        rw [add_lit _ _ _ (by decide)] at d1 d2 d3
        obtain ⟨o1, n1, s1, x1, l1, c1, hag⟩ := hnode.agg
        cases hag
        have HCH : Hid (∀ W, Below B w W → W.ownsRow B 9 1 (.slice qx K qc) K (strs (PP ++ namL (l.take j))) → Calls Tryz.prog 30 #[.slice qx K qc, .agg #[.string o1, .float .f64 n1, .string s1, .slice x1 l1 c1]] W fun e w' => ∃ u', e = .returned u' ∧ w'.ownsRow B 9 1 u' (PP ++ namL (l.take (j + 1))).length (strs (PP ++ namL (l.take (j + 1)))) ∧ Below B W w') := Lib.hid (fun W hW hO => by
          have h1 := szL_get l j hjl
          have h2 := HN.out
          have h3 := HPL.out
          have h4 := namL_len (l.take j)
          have h5 := szL_split hjl
          have e1 : PP ++ namL (l.take (j + 1)) = (PP ++ namL (l.take j)) ++ namT l[j] := by rw [List.take_succ_eq_append_getElem hjl, namL_snoc, List.append_assoc]
          rw [e1]
          rw [HKK.out] at hO ⊢
          exact HIH.out l[j] (by omega) _ _ _ W (Nat.le_trans HBW.out hW.size) (by rw [List.length_append]; omega) (hnode.low hW) hO)
        clear hs hnode
        have hws := HB.out.size
        have HAL := Lib.hid (fun o => HB.out.alloc (by omega : B ≤ wr.heap.size) o)
        have HOA := Lib.hid (fun o => HO.out.alloc o)
        go_wp2_with (first | (go_at_call 30; fail))
        go_at_call 30
        refine (HCH.out _ (HAL.out _) (HOA.out _)).mono ?_
        rintro e w5 ⟨u', rfl, ho5, hb5⟩
        have HB5 := Lib.hid ((HAL.out _).trans hb5)
        have HO5 := Lib.hid ho5
        clear d0 d1 d2 d3 ho5 hb5 HAL HOA HCH
        go_wp2
        go_roundg (gk - 1)
        case measure => omega
        case rel => exact ⟨j + 1, _, by omega, by go_num, Lib.hid rfl, HO5, HB5⟩
      · have HE : Hid (R = PP ++ namL (l.take j)) := Lib.hid (by
          rw [HRES.out, List.take_of_length_le (by have := HNL.out; omega)])
        go_wp2
        go_ret
        exact ⟨_, rfl, by rw [HE.out, ← HKK.out]; exact HO.out, HB.out⟩
end Go.Proofs.YtfalcmbjjlgoaaaGreatDoor
