/- Own texts, merged: V6. -/
import Derived.Deep.RegionHeld3
import Derived.Test.YtfalcmbjjlgoaaaGreatDoorMB41
/- Walks: Print: the program's (printed by gen_v6.py). -/
namespace Go.Proofs.YtfalcmbjjlgoaaaGreatDoor
open Go.RowKit Go.Shelf Ieee Go.Lib
attribute [local go_sem] run_store_float
set_option maxRecDepth 100000 in
set_option maxHeartbeats 8000000 in
theorem wpr_bad (op s : Bs) (fn : Nat) (x : Option Addr) (N cap : Nat) (w : World) 
    (HSH : Hid (∀ W, Below w.heap.size w W → Calls Tryz.prog 24 #[.agg #[.string (tx op), .float .f64 fn, .string (tx s), .slice x N cap]] W fun e w' => e = .returned (.bool false) ∧ Below W.heap.size W w')) :
    Calls Tryz.prog 9 #[.agg #[.string (tx op), .float .f64 fn, .string (tx s), .slice x N cap]] w fun e w' => e = .returned (.string (tx [48])) ∧ Below w.heap.size w w' := by
  have HB0 := Lib.hid (bel1 w (.cells #[.string (tx op), .float .f64 fn, .string (tx s), .slice x N cap] 25))
  have HNB : Hid (NB (w.alloc (.cells #[.string (tx op), .float .f64 fn, .string (tx s), .slice x N cap] 25)) w.heap.size (.agg #[.string (tx op), .float .f64 fn, .string (tx s), .slice x N cap])) := Lib.hid ⟨_, _, _, _, rfl, heap_alloc_new _ _⟩
  go_enter Tryz.func9, Tryz.ntmps9
  go_upto_region 1 with (fail)
  generalize w.alloc (.cells #[.string (tx op), .float .f64 fn, .string (tx s), .slice x N cap] 25) = W0 at HB0 HNB ⊢
  obtain ⟨p0, p1, p2, p3, _⟩ := HNB.out.cells
  have hlt := HNB.out.lt
  go_wp2_with (first | (go_at_call 24; fail))
  go_at_call 24
  refine (HSH.out W0 HB0.out).mono ?_
  rintro e w2 ⟨rfl, hb2⟩
  have HB2 := Lib.hid (HB0.out.trans (below_le hb2 HB0.out.size))
  have HNB2 := Lib.hid (HNB.out.below hb2)
  clear p0 p1 p2 p3 hlt hb2 HNB HB0 HSH
  obtain ⟨p0, p1, p2, p3, _⟩ := HNB2.out.cells
  have hlt := HNB2.out.lt
  go_wp2
  go_ret
  exact ⟨rfl, HB2.out⟩
set_option maxRecDepth 100000 in
set_option maxHeartbeats 8000000 in
theorem wpr_num (op s : Bs) (fn : Nat) (x : Option Addr) (N cap : Nat) (w : World) (hwnum : op = wnum) (ht : PwT w)
    (HSH : Hid (∀ W, Below w.heap.size w W → Calls Tryz.prog 24 #[.agg #[.string (tx op), .float .f64 fn, .string (tx s), .slice x N cap]] W fun e w' => e = .returned (.bool true) ∧ Below W.heap.size W w')) :
    Calls Tryz.prog 9 #[.agg #[.string (tx op), .float .f64 fn, .string (tx s), .slice x N cap]] w fun e w' => e = .returned (.string (tx (numT fn))) ∧ Below w.heap.size w w' := by
  have HT := Lib.hid ht
  have HPN := Lib.hid (fun W (h : PwT W) => wprintNum fn W h)
  clear ht
  have by1 : ((tx op).toList == [110, 117, 109]) = true := tx_is hwnum
  clear hwnum
  have HB0 := Lib.hid (bel1 w (.cells #[.string (tx op), .float .f64 fn, .string (tx s), .slice x N cap] 25))
  have HNB : Hid (NB (w.alloc (.cells #[.string (tx op), .float .f64 fn, .string (tx s), .slice x N cap] 25)) w.heap.size (.agg #[.string (tx op), .float .f64 fn, .string (tx s), .slice x N cap])) := Lib.hid ⟨_, _, _, _, rfl, heap_alloc_new _ _⟩
  go_enter Tryz.func9, Tryz.ntmps9
  go_upto_region 1 with (fail)
  generalize w.alloc (.cells #[.string (tx op), .float .f64 fn, .string (tx s), .slice x N cap] 25) = W0 at HB0 HNB ⊢
  obtain ⟨p0, p1, p2, p3, _⟩ := HNB.out.cells
  have hlt := HNB.out.lt
  go_wp2_with (first | (go_at_call 24; fail))
  go_at_call 24
  refine (HSH.out W0 HB0.out).mono ?_
  rintro e w2 ⟨rfl, hb2⟩
  have HB2 := Lib.hid (HB0.out.trans (below_le hb2 HB0.out.size))
  have HNB2 := Lib.hid (HNB.out.below hb2)
  clear p0 p1 p2 p3 hlt hb2 HNB HB0 HSH
  obtain ⟨p0, p1, p2, p3, _⟩ := HNB2.out.cells
  have hlt := HNB2.out.lt
  go_wp2_with (first | (go_at_call 25; fail))
  go_at_call 25
  refine (HPN.out w2 (HT.out.below HB2.out)).mono ?_
  rintro e w3 ⟨rfl, hb3⟩
  have HB3 := Lib.hid (HB2.out.trans (below_le hb3 HB2.out.size))
  clear hb3
  go_wp2
  go_ret
  exact ⟨rfl, HB3.out⟩
set_option maxRecDepth 100000 in
set_option maxHeartbeats 8000000 in
theorem wpr_text (op s : Bs) (fn : Nat) (x : Option Addr) (N cap : Nat) (w : World) (hwnum : op ≠ wnum) (hwtext : op = wtext) (hs : s.length ≤ 1000000)
    (HSH : Hid (∀ W, Below w.heap.size w W → Calls Tryz.prog 24 #[.agg #[.string (tx op), .float .f64 fn, .string (tx s), .slice x N cap]] W fun e w' => e = .returned (.bool true) ∧ Below W.heap.size W w')) :
    Calls Tryz.prog 9 #[.agg #[.string (tx op), .float .f64 fn, .string (tx s), .slice x N cap]] w fun e w' => e = .returned (.string (tx ([39] ++ s ++ [39]))) ∧ Below w.heap.size w w' := by
  have zl0 : (tx s).size ≤ 1000000 := by rw [tx_size' s]; omega
  have zb2 : 1 + (tx s).size ≤ 9223372036854775807 := by omega
  have zb3 : 1 + (tx s).size ≤ 9223372036854775806 := by omega
  have zd2 : (9223372036854775807 < 1 + (tx s).size) = False := eq_false (by omega)
  have zd3 : (9223372036854775807 < 1 + (tx s).size + 1) = False := eq_false (by omega)
  clear zl0
  have HR : Hid (({ data := #[39] } : ByteArray) ++ tx s ++ ({ data := #[39] } : ByteArray) = tx ([39] ++ s ++ [39])) := Lib.hid (by
    rw [show ([39] ++ s ++ [39] : Bs) = [39] ++ s ++ [39] from rfl]
    show tx [39] ++ tx s ++ tx [39] = _
    rw [tx_app, tx_app])
  have bn0 : ((tx op).toList == [110, 117, 109]) = false := tx_ne hwnum
  have by1 : ((tx op).toList == [116, 101, 120, 116]) = true := tx_is hwtext
  clear hwnum hwtext
  have HB0 := Lib.hid (bel1 w (.cells #[.string (tx op), .float .f64 fn, .string (tx s), .slice x N cap] 25))
  have HNB : Hid (NB (w.alloc (.cells #[.string (tx op), .float .f64 fn, .string (tx s), .slice x N cap] 25)) w.heap.size (.agg #[.string (tx op), .float .f64 fn, .string (tx s), .slice x N cap])) := Lib.hid ⟨_, _, _, _, rfl, heap_alloc_new _ _⟩
  go_enter Tryz.func9, Tryz.ntmps9
  go_upto_region 1 with (fail)
  generalize w.alloc (.cells #[.string (tx op), .float .f64 fn, .string (tx s), .slice x N cap] 25) = W0 at HB0 HNB ⊢
  obtain ⟨p0, p1, p2, p3, _⟩ := HNB.out.cells
  have hlt := HNB.out.lt
  go_wp2_with (first | (go_at_call 24; fail))
  go_at_call 24
  refine (HSH.out W0 HB0.out).mono ?_
  rintro e w2 ⟨rfl, hb2⟩
  have HB2 := Lib.hid (HB0.out.trans (below_le hb2 HB0.out.size))
  have HNB2 := Lib.hid (HNB.out.below hb2)
  clear p0 p1 p2 p3 hlt hb2 HNB HB0 HSH
  obtain ⟨p0, p1, p2, p3, _⟩ := HNB2.out.cells
  have hlt := HNB2.out.lt
  go_wp2
  go_ret
  exact ⟨ret_str HR.out, HB2.out⟩
set_option maxRecDepth 100000 in
set_option maxHeartbeats 8000000 in
theorem wpr_name (op s : Bs) (fn : Nat) (x : Option Addr) (N cap : Nat) (w : World) (hwnum : op ≠ wnum) (hwtext : op ≠ wtext) (hwname : op = wname)
    (HSH : Hid (∀ W, Below w.heap.size w W → Calls Tryz.prog 24 #[.agg #[.string (tx op), .float .f64 fn, .string (tx s), .slice x N cap]] W fun e w' => e = .returned (.bool true) ∧ Below W.heap.size W w')) :
    Calls Tryz.prog 9 #[.agg #[.string (tx op), .float .f64 fn, .string (tx s), .slice x N cap]] w fun e w' => e = .returned (.string (tx s)) ∧ Below w.heap.size w w' := by
  have bn0 : ((tx op).toList == [110, 117, 109]) = false := tx_ne hwnum
  have bn1 : ((tx op).toList == [116, 101, 120, 116]) = false := tx_ne hwtext
  have by1 : ((tx op).toList == [110, 97, 109, 101]) = true := tx_is hwname
  clear hwnum hwtext hwname
  have HB0 := Lib.hid (bel1 w (.cells #[.string (tx op), .float .f64 fn, .string (tx s), .slice x N cap] 25))
  have HNB : Hid (NB (w.alloc (.cells #[.string (tx op), .float .f64 fn, .string (tx s), .slice x N cap] 25)) w.heap.size (.agg #[.string (tx op), .float .f64 fn, .string (tx s), .slice x N cap])) := Lib.hid ⟨_, _, _, _, rfl, heap_alloc_new _ _⟩
  go_enter Tryz.func9, Tryz.ntmps9
  go_upto_region 1 with (fail)
  generalize w.alloc (.cells #[.string (tx op), .float .f64 fn, .string (tx s), .slice x N cap] 25) = W0 at HB0 HNB ⊢
  obtain ⟨p0, p1, p2, p3, _⟩ := HNB.out.cells
  have hlt := HNB.out.lt
  go_wp2_with (first | (go_at_call 24; fail))
  go_at_call 24
  refine (HSH.out W0 HB0.out).mono ?_
  rintro e w2 ⟨rfl, hb2⟩
  have HB2 := Lib.hid (HB0.out.trans (below_le hb2 HB0.out.size))
  have HNB2 := Lib.hid (HNB.out.below hb2)
  clear p0 p1 p2 p3 hlt hb2 HNB HB0 HSH
  obtain ⟨p0, p1, p2, p3, _⟩ := HNB2.out.cells
  have hlt := HNB2.out.lt
  go_wp2
  go_ret
  exact ⟨rfl, HB2.out⟩
set_option maxRecDepth 100000 in
set_option maxHeartbeats 8000000 in
theorem wpr_not (op s : Bs) (fn : Nat) (x : Option Addr) (N cap : Nat) (w : World) (hwnum : op ≠ wnum) (hwtext : op ≠ wtext) (hwname : op ≠ wname) (hwnot : op = wnot) (a : Addr) (hab : a.block < w.heap.size) (o1 s1 : ByteArray) (n1 : Nat) (x1 : Option Addr) (l1 c1 : Nat) (d0 : w.cell? a = some (.string o1)) (d1 : w.cell? ⟨a.block, a.off + 1, none⟩ = some (.float .f64 n1)) (d2 : w.cell? ⟨a.block, a.off + 2, none⟩ = some (.string s1)) (d3 : w.cell? ⟨a.block, a.off + 3, none⟩ = some (.slice x1 l1 c1)) (hx : x = some a) (hN : N = 1) (P : Bs) (hP : P.length ≤ 1000000) (HC : Hid (∀ W, Below w.heap.size w W → Calls Tryz.prog 26 #[.agg #[.string o1, .float .f64 n1, .string s1, .slice x1 l1 c1]] W fun e w' => e = .returned (.string (tx P)) ∧ Below W.heap.size W w'))
    (HSH : Hid (∀ W, Below w.heap.size w W → Calls Tryz.prog 24 #[.agg #[.string (tx op), .float .f64 fn, .string (tx s), .slice x N cap]] W fun e w' => e = .returned (.bool true) ∧ Below W.heap.size W w')) :
    Calls Tryz.prog 9 #[.agg #[.string (tx op), .float .f64 fn, .string (tx s), .slice x N cap]] w fun e w' => e = .returned (.string (tx ([110, 111, 116, 32] ++ P))) ∧ Below w.heap.size w w' := by
  subst hx
  subst hN
  have HD := Lib.hid (And.intro d0 (And.intro d1 (And.intro d2 (d3))))
  have zl0 : (tx P).size ≤ 1000000 := by rw [tx_size' P]; omega
  have zb2 : 4 + (tx P).size ≤ 9223372036854775807 := by omega
  have zd2 : (9223372036854775807 < 4 + (tx P).size) = False := eq_false (by omega)
  clear zl0
  have HR : Hid (({ data := #[110, 111, 116, 32] } : ByteArray) ++ tx P = tx ([110, 111, 116, 32] ++ P)) := Lib.hid (by
    rw [show ([110, 111, 116, 32] ++ P : Bs) = [110, 111, 116, 32] ++ P from rfl]
    show tx [110, 111, 116, 32] ++ tx P = _
    rw [tx_app])
  have bn0 : ((tx op).toList == [110, 117, 109]) = false := tx_ne hwnum
  have bn1 : ((tx op).toList == [116, 101, 120, 116]) = false := tx_ne hwtext
  have bn2 : ((tx op).toList == [110, 97, 109, 101]) = false := tx_ne hwname
  have by1 : ((tx op).toList == [110, 111, 116]) = true := tx_is hwnot
  clear hwnum hwtext hwname hwnot
  clear d0 d1 d2 d3
  have HB0 := Lib.hid (bel1 w (.cells #[.string (tx op), .float .f64 fn, .string (tx s), .slice (some a) 1 cap] 25))
  have HNB : Hid (NB (w.alloc (.cells #[.string (tx op), .float .f64 fn, .string (tx s), .slice (some a) 1 cap] 25)) w.heap.size (.agg #[.string (tx op), .float .f64 fn, .string (tx s), .slice (some a) 1 cap])) := Lib.hid ⟨_, _, _, _, rfl, heap_alloc_new _ _⟩
  go_enter Tryz.func9, Tryz.ntmps9
  go_upto_region 1 with (fail)
  generalize w.alloc (.cells #[.string (tx op), .float .f64 fn, .string (tx s), .slice (some a) 1 cap] 25) = W0 at HB0 HNB ⊢
  obtain ⟨p0, p1, p2, p3, _⟩ := HNB.out.cells
  have hlt := HNB.out.lt
  go_wp2_with (first | (go_at_call 24; fail))
  go_at_call 24
  refine (HSH.out W0 HB0.out).mono ?_
  rintro e w2 ⟨rfl, hb2⟩
  have HB2 := Lib.hid (HB0.out.trans (below_le hb2 HB0.out.size))
  have HNB2 := Lib.hid (HNB.out.below hb2)
  clear p0 p1 p2 p3 hlt hb2 HNB HB0 HSH
  obtain ⟨p0, p1, p2, p3, _⟩ := HNB2.out.cells
  have hlt := HNB2.out.lt
  have HSS : Hid (∀ W, Below w2.heap.size w2 W → Below w2.heap.size w2 W ∧ W.cell? ⟨w.heap.size, 0, none⟩ = some (.string (tx op)) ∧ W.cell? ⟨w.heap.size, 3, none⟩ = some (.slice (some a) 1 cap) ∧ W.cell? a = some (.string o1) ∧ W.cell? ⟨a.block, a.off + 1, none⟩ = some (.float .f64 n1) ∧ W.cell? ⟨a.block, a.off + 2, none⟩ = some (.string s1) ∧ W.cell? ⟨a.block, a.off + 3, none⟩ = some (.slice x1 l1 c1)) := Lib.hid (fun W hW => by
    have k1 : W.heap[w.heap.size]? = w2.heap[w.heap.size]? := hW.block _ hlt
    have k3 : W.heap[a.block]? = w.heap[a.block]? := (hW.block _ (by omega)).trans (HB2.out.block _ hab)
    exact ⟨hW, cell_same (a := ⟨w.heap.size, 0, none⟩) k1 p0, cell_same (a := ⟨w.heap.size, 3, none⟩) k1 p3, cell_same k3 HD.out.1, cell_same (a := ⟨a.block, a.off + 1, none⟩) k3 HD.out.2.1, cell_same (a := ⟨a.block, a.off + 2, none⟩) k3 HD.out.2.2.1, cell_same (a := ⟨a.block, a.off + 3, none⟩) k3 HD.out.2.2.2⟩)
  have HC2 := Lib.hid (fun W (h : Below w2.heap.size w2 W) => HC.out W (HB2.out.trans (below_le h HB2.out.size)))
  obtain ⟨_, _, _, d0, d1, d2, d3⟩ := HSS.out w2 (Below.refl _ _)
  go_wp2_with (first | (go_at_call 26; fail))
  go_at_call 26
  refine (HC2.out w2 (Below.refl _ _)).mono ?_
  rintro e w3 ⟨rfl, hb3⟩
  have HB3 := Lib.hid (HB2.out.trans (below_le hb3 HB2.out.size))
  clear hb3
  go_wp2
  go_ret
  exact ⟨ret_str HR.out, HB3.out⟩
set_option maxRecDepth 100000 in
set_option maxHeartbeats 8000000 in
theorem wpr_neg (op s : Bs) (fn : Nat) (x : Option Addr) (N cap : Nat) (w : World) (hwnum : op ≠ wnum) (hwtext : op ≠ wtext) (hwname : op ≠ wname) (hwnot : op ≠ wnot) (hwneg : op = wneg) (a : Addr) (hab : a.block < w.heap.size) (o1 s1 : ByteArray) (n1 : Nat) (x1 : Option Addr) (l1 c1 : Nat) (d0 : w.cell? a = some (.string o1)) (d1 : w.cell? ⟨a.block, a.off + 1, none⟩ = some (.float .f64 n1)) (d2 : w.cell? ⟨a.block, a.off + 2, none⟩ = some (.string s1)) (d3 : w.cell? ⟨a.block, a.off + 3, none⟩ = some (.slice x1 l1 c1)) (hx : x = some a) (hN : N = 1) (P : Bs) (hP : P.length ≤ 1000000) (HC : Hid (∀ W, Below w.heap.size w W → Calls Tryz.prog 26 #[.agg #[.string o1, .float .f64 n1, .string s1, .slice x1 l1 c1]] W fun e w' => e = .returned (.string (tx P)) ∧ Below W.heap.size W w'))
    (HSH : Hid (∀ W, Below w.heap.size w W → Calls Tryz.prog 24 #[.agg #[.string (tx op), .float .f64 fn, .string (tx s), .slice x N cap]] W fun e w' => e = .returned (.bool true) ∧ Below W.heap.size W w')) :
    Calls Tryz.prog 9 #[.agg #[.string (tx op), .float .f64 fn, .string (tx s), .slice x N cap]] w fun e w' => e = .returned (.string (tx ([45] ++ P))) ∧ Below w.heap.size w w' := by
  subst hx
  subst hN
  have HD := Lib.hid (And.intro d0 (And.intro d1 (And.intro d2 (d3))))
  have zl0 : (tx P).size ≤ 1000000 := by rw [tx_size' P]; omega
  have zb2 : 1 + (tx P).size ≤ 9223372036854775807 := by omega
  have zd2 : (9223372036854775807 < 1 + (tx P).size) = False := eq_false (by omega)
  clear zl0
  have HR : Hid (({ data := #[45] } : ByteArray) ++ tx P = tx ([45] ++ P)) := Lib.hid (by
    rw [show ([45] ++ P : Bs) = [45] ++ P from rfl]
    show tx [45] ++ tx P = _
    rw [tx_app])
  have bn0 : ((tx op).toList == [110, 117, 109]) = false := tx_ne hwnum
  have bn1 : ((tx op).toList == [116, 101, 120, 116]) = false := tx_ne hwtext
  have bn2 : ((tx op).toList == [110, 97, 109, 101]) = false := tx_ne hwname
  have bn3 : ((tx op).toList == [110, 111, 116]) = false := tx_ne hwnot
  have by1 : ((tx op).toList == [110, 101, 103]) = true := tx_is hwneg
  clear hwnum hwtext hwname hwnot hwneg
  clear d0 d1 d2 d3
  have HB0 := Lib.hid (bel1 w (.cells #[.string (tx op), .float .f64 fn, .string (tx s), .slice (some a) 1 cap] 25))
  have HNB : Hid (NB (w.alloc (.cells #[.string (tx op), .float .f64 fn, .string (tx s), .slice (some a) 1 cap] 25)) w.heap.size (.agg #[.string (tx op), .float .f64 fn, .string (tx s), .slice (some a) 1 cap])) := Lib.hid ⟨_, _, _, _, rfl, heap_alloc_new _ _⟩
  go_enter Tryz.func9, Tryz.ntmps9
  go_upto_region 1 with (fail)
  generalize w.alloc (.cells #[.string (tx op), .float .f64 fn, .string (tx s), .slice (some a) 1 cap] 25) = W0 at HB0 HNB ⊢
  obtain ⟨p0, p1, p2, p3, _⟩ := HNB.out.cells
  have hlt := HNB.out.lt
  go_wp2_with (first | (go_at_call 24; fail))
  go_at_call 24
  refine (HSH.out W0 HB0.out).mono ?_
  rintro e w2 ⟨rfl, hb2⟩
  have HB2 := Lib.hid (HB0.out.trans (below_le hb2 HB0.out.size))
  have HNB2 := Lib.hid (HNB.out.below hb2)
  clear p0 p1 p2 p3 hlt hb2 HNB HB0 HSH
  obtain ⟨p0, p1, p2, p3, _⟩ := HNB2.out.cells
  have hlt := HNB2.out.lt
  have HSS : Hid (∀ W, Below w2.heap.size w2 W → Below w2.heap.size w2 W ∧ W.cell? ⟨w.heap.size, 0, none⟩ = some (.string (tx op)) ∧ W.cell? ⟨w.heap.size, 3, none⟩ = some (.slice (some a) 1 cap) ∧ W.cell? a = some (.string o1) ∧ W.cell? ⟨a.block, a.off + 1, none⟩ = some (.float .f64 n1) ∧ W.cell? ⟨a.block, a.off + 2, none⟩ = some (.string s1) ∧ W.cell? ⟨a.block, a.off + 3, none⟩ = some (.slice x1 l1 c1)) := Lib.hid (fun W hW => by
    have k1 : W.heap[w.heap.size]? = w2.heap[w.heap.size]? := hW.block _ hlt
    have k3 : W.heap[a.block]? = w.heap[a.block]? := (hW.block _ (by omega)).trans (HB2.out.block _ hab)
    exact ⟨hW, cell_same (a := ⟨w.heap.size, 0, none⟩) k1 p0, cell_same (a := ⟨w.heap.size, 3, none⟩) k1 p3, cell_same k3 HD.out.1, cell_same (a := ⟨a.block, a.off + 1, none⟩) k3 HD.out.2.1, cell_same (a := ⟨a.block, a.off + 2, none⟩) k3 HD.out.2.2.1, cell_same (a := ⟨a.block, a.off + 3, none⟩) k3 HD.out.2.2.2⟩)
  have HC2 := Lib.hid (fun W (h : Below w2.heap.size w2 W) => HC.out W (HB2.out.trans (below_le h HB2.out.size)))
  obtain ⟨_, _, _, d0, d1, d2, d3⟩ := HSS.out w2 (Below.refl _ _)
  go_wp2_with (first | (go_at_call 26; fail))
  go_at_call 26
  refine (HC2.out w2 (Below.refl _ _)).mono ?_
  rintro e w3 ⟨rfl, hb3⟩
  have HB3 := Lib.hid (HB2.out.trans (below_le hb3 HB2.out.size))
  clear hb3
  go_wp2
  go_ret
  exact ⟨ret_str HR.out, HB3.out⟩
set_option maxRecDepth 100000 in
set_option maxHeartbeats 8000000 in
theorem wpr_len (op s : Bs) (fn : Nat) (x : Option Addr) (N cap : Nat) (w : World) (hwnum : op ≠ wnum) (hwtext : op ≠ wtext) (hwname : op ≠ wname) (hwnot : op ≠ wnot) (hwneg : op ≠ wneg) (hwlen : op = wlen) (a : Addr) (hab : a.block < w.heap.size) (o1 s1 : ByteArray) (n1 : Nat) (x1 : Option Addr) (l1 c1 : Nat) (d0 : w.cell? a = some (.string o1)) (d1 : w.cell? ⟨a.block, a.off + 1, none⟩ = some (.float .f64 n1)) (d2 : w.cell? ⟨a.block, a.off + 2, none⟩ = some (.string s1)) (d3 : w.cell? ⟨a.block, a.off + 3, none⟩ = some (.slice x1 l1 c1)) (hx : x = some a) (hN : N = 1) (P : Bs) (hP : P.length ≤ 1000000) (HC : Hid (∀ W, Below w.heap.size w W → Calls Tryz.prog 9 #[.agg #[.string o1, .float .f64 n1, .string s1, .slice x1 l1 c1]] W fun e w' => e = .returned (.string (tx P)) ∧ Below W.heap.size W w'))
    (HSH : Hid (∀ W, Below w.heap.size w W → Calls Tryz.prog 24 #[.agg #[.string (tx op), .float .f64 fn, .string (tx s), .slice x N cap]] W fun e w' => e = .returned (.bool true) ∧ Below W.heap.size W w')) :
    Calls Tryz.prog 9 #[.agg #[.string (tx op), .float .f64 fn, .string (tx s), .slice x N cap]] w fun e w' => e = .returned (.string (tx (op ++ [40] ++ P ++ [41]))) ∧ Below w.heap.size w w' := by
  subst hx
  subst hN
  have HD := Lib.hid (And.intro d0 (And.intro d1 (And.intro d2 (d3))))
  have hop4 : op.length ≤ 4 := by rw [hwlen]; decide
  have zl0 : (tx op).size ≤ 1000000 := by rw [tx_size' op]; omega
  have zl1 : (tx P).size ≤ 1000000 := by rw [tx_size' P]; omega
  have zb2 : (tx op).size ≤ 9223372036854775806 := by omega
  have zb3 : (tx op).size + 1 + (tx P).size ≤ 9223372036854775807 := by omega
  have zb4 : (tx op).size + 1 + (tx P).size ≤ 9223372036854775806 := by omega
  have zd2 : (9223372036854775807 < (tx op).size + 1) = False := eq_false (by omega)
  have zd3 : (9223372036854775807 < (tx op).size + 1 + (tx P).size) = False := eq_false (by omega)
  have zd4 : (9223372036854775807 < (tx op).size + 1 + (tx P).size + 1) = False := eq_false (by omega)
  clear zl0
  clear zl1
  have HR : Hid (tx op ++ ({ data := #[40] } : ByteArray) ++ tx P ++ ({ data := #[41] } : ByteArray) = tx (op ++ [40] ++ P ++ [41])) := Lib.hid (by
    rw [show (op ++ [40] ++ P ++ [41] : Bs) = op ++ [40] ++ P ++ [41] from rfl]
    show tx op ++ tx [40] ++ tx P ++ tx [41] = _
    rw [tx_app, tx_app, tx_app])
  have bn0 : ((tx op).toList == [110, 117, 109]) = false := tx_ne hwnum
  have bn1 : ((tx op).toList == [116, 101, 120, 116]) = false := tx_ne hwtext
  have bn2 : ((tx op).toList == [110, 97, 109, 101]) = false := tx_ne hwname
  have bn3 : ((tx op).toList == [110, 111, 116]) = false := tx_ne hwnot
  have bn4 : ((tx op).toList == [110, 101, 103]) = false := tx_ne hwneg
  have by1 : ((tx op).toList == [108, 101, 110]) = true := tx_is hwlen
  clear hwnum hwtext hwname hwnot hwneg hwlen
  clear d0 d1 d2 d3
  have HB0 := Lib.hid (bel1 w (.cells #[.string (tx op), .float .f64 fn, .string (tx s), .slice (some a) 1 cap] 25))
  have HNB : Hid (NB (w.alloc (.cells #[.string (tx op), .float .f64 fn, .string (tx s), .slice (some a) 1 cap] 25)) w.heap.size (.agg #[.string (tx op), .float .f64 fn, .string (tx s), .slice (some a) 1 cap])) := Lib.hid ⟨_, _, _, _, rfl, heap_alloc_new _ _⟩
  go_enter Tryz.func9, Tryz.ntmps9
  go_upto_region 1 with (fail)
  generalize w.alloc (.cells #[.string (tx op), .float .f64 fn, .string (tx s), .slice (some a) 1 cap] 25) = W0 at HB0 HNB ⊢
  obtain ⟨p0, p1, p2, p3, _⟩ := HNB.out.cells
  have hlt := HNB.out.lt
  go_wp2_with (first | (go_at_call 24; fail))
  go_at_call 24
  refine (HSH.out W0 HB0.out).mono ?_
  rintro e w2 ⟨rfl, hb2⟩
  have HB2 := Lib.hid (HB0.out.trans (below_le hb2 HB0.out.size))
  have HNB2 := Lib.hid (HNB.out.below hb2)
  clear p0 p1 p2 p3 hlt hb2 HNB HB0 HSH
  obtain ⟨p0, p1, p2, p3, _⟩ := HNB2.out.cells
  have hlt := HNB2.out.lt
  have HSS : Hid (∀ W, Below w2.heap.size w2 W → Below w2.heap.size w2 W ∧ W.cell? ⟨w.heap.size, 0, none⟩ = some (.string (tx op)) ∧ W.cell? ⟨w.heap.size, 3, none⟩ = some (.slice (some a) 1 cap) ∧ W.cell? a = some (.string o1) ∧ W.cell? ⟨a.block, a.off + 1, none⟩ = some (.float .f64 n1) ∧ W.cell? ⟨a.block, a.off + 2, none⟩ = some (.string s1) ∧ W.cell? ⟨a.block, a.off + 3, none⟩ = some (.slice x1 l1 c1)) := Lib.hid (fun W hW => by
    have k1 : W.heap[w.heap.size]? = w2.heap[w.heap.size]? := hW.block _ hlt
    have k3 : W.heap[a.block]? = w.heap[a.block]? := (hW.block _ (by omega)).trans (HB2.out.block _ hab)
    exact ⟨hW, cell_same (a := ⟨w.heap.size, 0, none⟩) k1 p0, cell_same (a := ⟨w.heap.size, 3, none⟩) k1 p3, cell_same k3 HD.out.1, cell_same (a := ⟨a.block, a.off + 1, none⟩) k3 HD.out.2.1, cell_same (a := ⟨a.block, a.off + 2, none⟩) k3 HD.out.2.2.1, cell_same (a := ⟨a.block, a.off + 3, none⟩) k3 HD.out.2.2.2⟩)
  have HC2 := Lib.hid (fun W (h : Below w2.heap.size w2 W) => HC.out W (HB2.out.trans (below_le h HB2.out.size)))
  obtain ⟨_, _, _, d0, d1, d2, d3⟩ := HSS.out w2 (Below.refl _ _)
  go_wp2_with fail
  go_region_held3 (fun W => Below w2.heap.size w2 W ∧ W.cell? ⟨w.heap.size, 0, none⟩ = some (.string (tx op)) ∧ W.cell? ⟨w.heap.size, 3, none⟩ = some (.slice (some a) 1 cap) ∧ W.cell? a = some (.string o1) ∧ W.cell? ⟨a.block, a.off + 1, none⟩ = some (.float .f64 n1) ∧ W.cell? ⟨a.block, a.off + 2, none⟩ = some (.string s1) ∧ W.cell? ⟨a.block, a.off + 3, none⟩ = some (.slice x1 l1 c1))
    (first | exact HSS.out _ (Below.refl _ _).drew | exact HSS.out _ HB5.out)
    (first | (go_at_call 9; (with_reducible refine (HC2.out _ (Below.refl _ _).drew).mono ?_); rintro e w5 ⟨rfl, hb5⟩; have HB5 := Lib.hid ((Below.refl w2.heap.size w2).drew.trans hb5 : Below w2.heap.size w2 w5); clear hb5))
  go_wp2
  go_ret
  exact ⟨ret_str HR.out, HB2.out.trans (below_le HB5.out HB2.out.size)⟩
set_option maxRecDepth 100000 in
set_option maxHeartbeats 8000000 in
theorem wpr_abs (op s : Bs) (fn : Nat) (x : Option Addr) (N cap : Nat) (w : World) (hwnum : op ≠ wnum) (hwtext : op ≠ wtext) (hwname : op ≠ wname) (hwnot : op ≠ wnot) (hwneg : op ≠ wneg) (hwlen : op ≠ wlen) (hwabs : op = wabs) (a : Addr) (hab : a.block < w.heap.size) (o1 s1 : ByteArray) (n1 : Nat) (x1 : Option Addr) (l1 c1 : Nat) (d0 : w.cell? a = some (.string o1)) (d1 : w.cell? ⟨a.block, a.off + 1, none⟩ = some (.float .f64 n1)) (d2 : w.cell? ⟨a.block, a.off + 2, none⟩ = some (.string s1)) (d3 : w.cell? ⟨a.block, a.off + 3, none⟩ = some (.slice x1 l1 c1)) (hx : x = some a) (hN : N = 1) (P : Bs) (hP : P.length ≤ 1000000) (HC : Hid (∀ W, Below w.heap.size w W → Calls Tryz.prog 9 #[.agg #[.string o1, .float .f64 n1, .string s1, .slice x1 l1 c1]] W fun e w' => e = .returned (.string (tx P)) ∧ Below W.heap.size W w'))
    (HSH : Hid (∀ W, Below w.heap.size w W → Calls Tryz.prog 24 #[.agg #[.string (tx op), .float .f64 fn, .string (tx s), .slice x N cap]] W fun e w' => e = .returned (.bool true) ∧ Below W.heap.size W w')) :
    Calls Tryz.prog 9 #[.agg #[.string (tx op), .float .f64 fn, .string (tx s), .slice x N cap]] w fun e w' => e = .returned (.string (tx (op ++ [40] ++ P ++ [41]))) ∧ Below w.heap.size w w' := by
  subst hx
  subst hN
  have HD := Lib.hid (And.intro d0 (And.intro d1 (And.intro d2 (d3))))
  have hop4 : op.length ≤ 4 := by rw [hwabs]; decide
  have zl0 : (tx op).size ≤ 1000000 := by rw [tx_size' op]; omega
  have zl1 : (tx P).size ≤ 1000000 := by rw [tx_size' P]; omega
  have zb2 : (tx op).size ≤ 9223372036854775806 := by omega
  have zb3 : (tx op).size + 1 + (tx P).size ≤ 9223372036854775807 := by omega
  have zb4 : (tx op).size + 1 + (tx P).size ≤ 9223372036854775806 := by omega
  have zd2 : (9223372036854775807 < (tx op).size + 1) = False := eq_false (by omega)
  have zd3 : (9223372036854775807 < (tx op).size + 1 + (tx P).size) = False := eq_false (by omega)
  have zd4 : (9223372036854775807 < (tx op).size + 1 + (tx P).size + 1) = False := eq_false (by omega)
  clear zl0
  clear zl1
  have HR : Hid (tx op ++ ({ data := #[40] } : ByteArray) ++ tx P ++ ({ data := #[41] } : ByteArray) = tx (op ++ [40] ++ P ++ [41])) := Lib.hid (by
    rw [show (op ++ [40] ++ P ++ [41] : Bs) = op ++ [40] ++ P ++ [41] from rfl]
    show tx op ++ tx [40] ++ tx P ++ tx [41] = _
    rw [tx_app, tx_app, tx_app])
  have bn0 : ((tx op).toList == [110, 117, 109]) = false := tx_ne hwnum
  have bn1 : ((tx op).toList == [116, 101, 120, 116]) = false := tx_ne hwtext
  have bn2 : ((tx op).toList == [110, 97, 109, 101]) = false := tx_ne hwname
  have bn3 : ((tx op).toList == [110, 111, 116]) = false := tx_ne hwnot
  have bn4 : ((tx op).toList == [110, 101, 103]) = false := tx_ne hwneg
  have bn5 : ((tx op).toList == [108, 101, 110]) = false := tx_ne hwlen
  have by1 : ((tx op).toList == [97, 98, 115]) = true := tx_is hwabs
  clear hwnum hwtext hwname hwnot hwneg hwlen hwabs
  clear d0 d1 d2 d3
  have HB0 := Lib.hid (bel1 w (.cells #[.string (tx op), .float .f64 fn, .string (tx s), .slice (some a) 1 cap] 25))
  have HNB : Hid (NB (w.alloc (.cells #[.string (tx op), .float .f64 fn, .string (tx s), .slice (some a) 1 cap] 25)) w.heap.size (.agg #[.string (tx op), .float .f64 fn, .string (tx s), .slice (some a) 1 cap])) := Lib.hid ⟨_, _, _, _, rfl, heap_alloc_new _ _⟩
  go_enter Tryz.func9, Tryz.ntmps9
  go_upto_region 1 with (fail)
  generalize w.alloc (.cells #[.string (tx op), .float .f64 fn, .string (tx s), .slice (some a) 1 cap] 25) = W0 at HB0 HNB ⊢
  obtain ⟨p0, p1, p2, p3, _⟩ := HNB.out.cells
  have hlt := HNB.out.lt
  go_wp2_with (first | (go_at_call 24; fail))
  go_at_call 24
  refine (HSH.out W0 HB0.out).mono ?_
  rintro e w2 ⟨rfl, hb2⟩
  have HB2 := Lib.hid (HB0.out.trans (below_le hb2 HB0.out.size))
  have HNB2 := Lib.hid (HNB.out.below hb2)
  clear p0 p1 p2 p3 hlt hb2 HNB HB0 HSH
  obtain ⟨p0, p1, p2, p3, _⟩ := HNB2.out.cells
  have hlt := HNB2.out.lt
  have HSS : Hid (∀ W, Below w2.heap.size w2 W → Below w2.heap.size w2 W ∧ W.cell? ⟨w.heap.size, 0, none⟩ = some (.string (tx op)) ∧ W.cell? ⟨w.heap.size, 3, none⟩ = some (.slice (some a) 1 cap) ∧ W.cell? a = some (.string o1) ∧ W.cell? ⟨a.block, a.off + 1, none⟩ = some (.float .f64 n1) ∧ W.cell? ⟨a.block, a.off + 2, none⟩ = some (.string s1) ∧ W.cell? ⟨a.block, a.off + 3, none⟩ = some (.slice x1 l1 c1)) := Lib.hid (fun W hW => by
    have k1 : W.heap[w.heap.size]? = w2.heap[w.heap.size]? := hW.block _ hlt
    have k3 : W.heap[a.block]? = w.heap[a.block]? := (hW.block _ (by omega)).trans (HB2.out.block _ hab)
    exact ⟨hW, cell_same (a := ⟨w.heap.size, 0, none⟩) k1 p0, cell_same (a := ⟨w.heap.size, 3, none⟩) k1 p3, cell_same k3 HD.out.1, cell_same (a := ⟨a.block, a.off + 1, none⟩) k3 HD.out.2.1, cell_same (a := ⟨a.block, a.off + 2, none⟩) k3 HD.out.2.2.1, cell_same (a := ⟨a.block, a.off + 3, none⟩) k3 HD.out.2.2.2⟩)
  have HC2 := Lib.hid (fun W (h : Below w2.heap.size w2 W) => HC.out W (HB2.out.trans (below_le h HB2.out.size)))
  obtain ⟨_, _, _, d0, d1, d2, d3⟩ := HSS.out w2 (Below.refl _ _)
  go_wp2_with fail
  go_region_held3 (fun W => Below w2.heap.size w2 W ∧ W.cell? ⟨w.heap.size, 0, none⟩ = some (.string (tx op)) ∧ W.cell? ⟨w.heap.size, 3, none⟩ = some (.slice (some a) 1 cap) ∧ W.cell? a = some (.string o1) ∧ W.cell? ⟨a.block, a.off + 1, none⟩ = some (.float .f64 n1) ∧ W.cell? ⟨a.block, a.off + 2, none⟩ = some (.string s1) ∧ W.cell? ⟨a.block, a.off + 3, none⟩ = some (.slice x1 l1 c1))
    (first | exact HSS.out _ (Below.refl _ _).drew | exact HSS.out _ HB5.out)
    (first | (go_at_call 9; (with_reducible refine (HC2.out _ (Below.refl _ _).drew).mono ?_); rintro e w5 ⟨rfl, hb5⟩; have HB5 := Lib.hid ((Below.refl w2.heap.size w2).drew.trans hb5 : Below w2.heap.size w2 w5); clear hb5))
  go_wp2
  go_ret
  exact ⟨ret_str HR.out, HB2.out.trans (below_le HB5.out HB2.out.size)⟩
set_option maxRecDepth 100000 in
set_option maxHeartbeats 8000000 in
theorem wpr_has (op s : Bs) (fn : Nat) (x : Option Addr) (N cap : Nat) (w : World) (hwnum : op ≠ wnum) (hwtext : op ≠ wtext) (hwname : op ≠ wname) (hwnot : op ≠ wnot) (hwneg : op ≠ wneg) (hwlen : op ≠ wlen) (hwabs : op ≠ wabs) (hwhas : op = whas)  (a : Addr) (hab : a.block < w.heap.size) (o1 s1 : ByteArray) (n1 : Nat) (x1 : Option Addr) (l1 c1 : Nat) (d0 : w.cell? a = some (.string o1)) (d1 : w.cell? ⟨a.block, a.off + 1, none⟩ = some (.float .f64 n1)) (d2 : w.cell? ⟨a.block, a.off + 2, none⟩ = some (.string s1)) (d3 : w.cell? ⟨a.block, a.off + 3, none⟩ = some (.slice x1 l1 c1)) (o2 s2 : ByteArray) (n2 : Nat) (x2 : Option Addr) (l2 c2 : Nat) (d4 : w.cell? ⟨a.block, a.off + 4, none⟩ = some (.string o2)) (d5 : w.cell? ⟨a.block, a.off + 4 + 1, none⟩ = some (.float .f64 n2)) (d6 : w.cell? ⟨a.block, a.off + 4 + 2, none⟩ = some (.string s2)) (d7 : w.cell? ⟨a.block, a.off + 4 + 3, none⟩ = some (.slice x2 l2 c2)) (hx : x = some a) (hN : N = 2) (P Q : Bs) (hP : P.length ≤ 1000000) (hQ : Q.length ≤ 1000000) (HC : Hid (∀ W, Below w.heap.size w W → Calls Tryz.prog 9 #[.agg #[.string o1, .float .f64 n1, .string s1, .slice x1 l1 c1]] W fun e w' => e = .returned (.string (tx P)) ∧ Below W.heap.size W w')) (HCQ : Hid (∀ W, Below w.heap.size w W → Calls Tryz.prog 9 #[.agg #[.string o2, .float .f64 n2, .string s2, .slice x2 l2 c2]] W fun e w' => e = .returned (.string (tx Q)) ∧ Below W.heap.size W w'))
    (HSH : Hid (∀ W, Below w.heap.size w W → Calls Tryz.prog 24 #[.agg #[.string (tx op), .float .f64 fn, .string (tx s), .slice x N cap]] W fun e w' => e = .returned (.bool true) ∧ Below W.heap.size W w')) :
    Calls Tryz.prog 9 #[.agg #[.string (tx op), .float .f64 fn, .string (tx s), .slice x N cap]] w fun e w' => e = .returned (.string (tx ([104, 97, 115, 40] ++ P ++ [44, 32] ++ Q ++ [41]))) ∧ Below w.heap.size w w' := by
  subst hx
  subst hN
  have HD := Lib.hid (And.intro d0 (And.intro d1 (And.intro d2 (And.intro d3 (And.intro d4 (And.intro d5 (And.intro d6 (d7))))))))
  have zl0 : (tx P).size ≤ 1000000 := by rw [tx_size' P]; omega
  have zl1 : (tx Q).size ≤ 1000000 := by rw [tx_size' Q]; omega
  have zb2 : 4 + (tx P).size ≤ 9223372036854775807 := by omega
  have zb3 : 4 + (tx P).size ≤ 9223372036854775805 := by omega
  have zb4 : 4 + (tx P).size + 2 + (tx Q).size ≤ 9223372036854775807 := by omega
  have zb5 : 4 + (tx P).size + 2 + (tx Q).size ≤ 9223372036854775806 := by omega
  have zd2 : (9223372036854775807 < 4 + (tx P).size) = False := eq_false (by omega)
  have zd3 : (9223372036854775807 < 4 + (tx P).size + 2) = False := eq_false (by omega)
  have zd4 : (9223372036854775807 < 4 + (tx P).size + 2 + (tx Q).size) = False := eq_false (by omega)
  have zd5 : (9223372036854775807 < 4 + (tx P).size + 2 + (tx Q).size + 1) = False := eq_false (by omega)
  clear zl0
  clear zl1
  have HR : Hid (({ data := #[104, 97, 115, 40] } : ByteArray) ++ tx P ++ ({ data := #[44, 32] } : ByteArray) ++ tx Q ++ ({ data := #[41] } : ByteArray) = tx ([104, 97, 115, 40] ++ P ++ [44, 32] ++ Q ++ [41])) := Lib.hid (by
    rw [show ([104, 97, 115, 40] ++ P ++ [44, 32] ++ Q ++ [41] : Bs) = [104, 97, 115, 40] ++ P ++ [44, 32] ++ Q ++ [41] from rfl]
    show tx [104, 97, 115, 40] ++ tx P ++ tx [44, 32] ++ tx Q ++ tx [41] = _
    rw [tx_app, tx_app, tx_app, tx_app])
  have bn0 : ((tx op).toList == [110, 117, 109]) = false := tx_ne hwnum
  have bn1 : ((tx op).toList == [116, 101, 120, 116]) = false := tx_ne hwtext
  have bn2 : ((tx op).toList == [110, 97, 109, 101]) = false := tx_ne hwname
  have bn3 : ((tx op).toList == [110, 111, 116]) = false := tx_ne hwnot
  have bn4 : ((tx op).toList == [110, 101, 103]) = false := tx_ne hwneg
  have bn5 : ((tx op).toList == [108, 101, 110]) = false := tx_ne hwlen
  have bn6 : ((tx op).toList == [97, 98, 115]) = false := tx_ne hwabs
  have by1 : ((tx op).toList == [104, 97, 115]) = true := tx_is hwhas
  clear hwnum hwtext hwname hwnot hwneg hwlen hwabs hwhas
  clear d0 d1 d2 d3 d4 d5 d6 d7
  have HB0 := Lib.hid (bel1 w (.cells #[.string (tx op), .float .f64 fn, .string (tx s), .slice (some a) 2 cap] 25))
  have HNB : Hid (NB (w.alloc (.cells #[.string (tx op), .float .f64 fn, .string (tx s), .slice (some a) 2 cap] 25)) w.heap.size (.agg #[.string (tx op), .float .f64 fn, .string (tx s), .slice (some a) 2 cap])) := Lib.hid ⟨_, _, _, _, rfl, heap_alloc_new _ _⟩
  go_enter Tryz.func9, Tryz.ntmps9
  go_upto_region 1 with (fail)
  generalize w.alloc (.cells #[.string (tx op), .float .f64 fn, .string (tx s), .slice (some a) 2 cap] 25) = W0 at HB0 HNB ⊢
  obtain ⟨p0, p1, p2, p3, _⟩ := HNB.out.cells
  have hlt := HNB.out.lt
  go_wp2_with (first | (go_at_call 24; fail))
  go_at_call 24
  refine (HSH.out W0 HB0.out).mono ?_
  rintro e w2 ⟨rfl, hb2⟩
  have HB2 := Lib.hid (HB0.out.trans (below_le hb2 HB0.out.size))
  have HNB2 := Lib.hid (HNB.out.below hb2)
  clear p0 p1 p2 p3 hlt hb2 HNB HB0 HSH
  obtain ⟨p0, p1, p2, p3, _⟩ := HNB2.out.cells
  have hlt := HNB2.out.lt
  have HSS : Hid (∀ W, Below w2.heap.size w2 W → Below w2.heap.size w2 W ∧ W.cell? ⟨w.heap.size, 0, none⟩ = some (.string (tx op)) ∧ W.cell? ⟨w.heap.size, 3, none⟩ = some (.slice (some a) 2 cap) ∧ W.cell? a = some (.string o1) ∧ W.cell? ⟨a.block, a.off + 1, none⟩ = some (.float .f64 n1) ∧ W.cell? ⟨a.block, a.off + 2, none⟩ = some (.string s1) ∧ W.cell? ⟨a.block, a.off + 3, none⟩ = some (.slice x1 l1 c1) ∧ W.cell? ⟨a.block, a.off + 4, none⟩ = some (.string o2) ∧ W.cell? ⟨a.block, a.off + 4 + 1, none⟩ = some (.float .f64 n2) ∧ W.cell? ⟨a.block, a.off + 4 + 2, none⟩ = some (.string s2) ∧ W.cell? ⟨a.block, a.off + 4 + 3, none⟩ = some (.slice x2 l2 c2)) := Lib.hid (fun W hW => by
    have k1 : W.heap[w.heap.size]? = w2.heap[w.heap.size]? := hW.block _ hlt
    have k3 : W.heap[a.block]? = w.heap[a.block]? := (hW.block _ (by omega)).trans (HB2.out.block _ hab)
    exact ⟨hW, cell_same (a := ⟨w.heap.size, 0, none⟩) k1 p0, cell_same (a := ⟨w.heap.size, 3, none⟩) k1 p3, cell_same k3 HD.out.1, cell_same (a := ⟨a.block, a.off + 1, none⟩) k3 HD.out.2.1, cell_same (a := ⟨a.block, a.off + 2, none⟩) k3 HD.out.2.2.1, cell_same (a := ⟨a.block, a.off + 3, none⟩) k3 HD.out.2.2.2.1, cell_same (a := ⟨a.block, a.off + 4, none⟩) k3 HD.out.2.2.2.2.1, cell_same (a := ⟨a.block, a.off + 4 + 1, none⟩) k3 HD.out.2.2.2.2.2.1, cell_same (a := ⟨a.block, a.off + 4 + 2, none⟩) k3 HD.out.2.2.2.2.2.2.1, cell_same (a := ⟨a.block, a.off + 4 + 3, none⟩) k3 HD.out.2.2.2.2.2.2.2⟩)
  have HC2 := Lib.hid (fun W (h : Below w2.heap.size w2 W) => HC.out W (HB2.out.trans (below_le h HB2.out.size)))
  have HC3 := Lib.hid (fun W (h : Below w2.heap.size w2 W) => HCQ.out W (HB2.out.trans (below_le h HB2.out.size)))
  obtain ⟨_, _, _, d0, d1, d2, d3, d4, d5, d6, d7⟩ := HSS.out w2 (Below.refl _ _)
  go_wp2_with fail
  go_region_held3 (fun W => Below w2.heap.size w2 W ∧ W.cell? ⟨w.heap.size, 0, none⟩ = some (.string (tx op)) ∧ W.cell? ⟨w.heap.size, 3, none⟩ = some (.slice (some a) 2 cap) ∧ W.cell? a = some (.string o1) ∧ W.cell? ⟨a.block, a.off + 1, none⟩ = some (.float .f64 n1) ∧ W.cell? ⟨a.block, a.off + 2, none⟩ = some (.string s1) ∧ W.cell? ⟨a.block, a.off + 3, none⟩ = some (.slice x1 l1 c1) ∧ W.cell? ⟨a.block, a.off + 4, none⟩ = some (.string o2) ∧ W.cell? ⟨a.block, a.off + 4 + 1, none⟩ = some (.float .f64 n2) ∧ W.cell? ⟨a.block, a.off + 4 + 2, none⟩ = some (.string s2) ∧ W.cell? ⟨a.block, a.off + 4 + 3, none⟩ = some (.slice x2 l2 c2))
    (first | exact HSS.out _ (Below.refl _ _).drew | exact HSS.out _ HB6.out | exact HSS.out _ HB5.out)
    (first | (go_at_call 9; have HB5' := HB5; (with_reducible refine (HC3.out _ HB5'.out).mono ?_); rintro e w6 ⟨rfl, hb6⟩; have HB6 := Lib.hid (HB5'.out.trans (below_le hb6 HB5'.out.size) : Below w2.heap.size w2 w6); clear hb6 HB5') | (go_at_call 9; (with_reducible refine (HC2.out _ (Below.refl _ _).drew).mono ?_); rintro e w5 ⟨rfl, hb5⟩; have HB5 := Lib.hid ((Below.refl w2.heap.size w2).drew.trans hb5 : Below w2.heap.size w2 w5); clear hb5))
  go_wp2
  go_ret
  exact ⟨ret_str HR.out, HB2.out.trans (below_le HB6.out HB2.out.size)⟩
set_option maxRecDepth 100000 in
set_option maxHeartbeats 8000000 in
theorem wpr_two (op s : Bs) (fn : Nat) (x : Option Addr) (N cap : Nat) (w : World) (hwnum : op ≠ wnum) (hwtext : op ≠ wtext) (hwname : op ≠ wname) (hwnot : op ≠ wnot) (hwneg : op ≠ wneg) (hwlen : op ≠ wlen) (hwabs : op ≠ wabs) (hwhas : op ≠ whas)  (hop : op.length ≤ 4) (a : Addr) (hab : a.block < w.heap.size) (o1 s1 : ByteArray) (n1 : Nat) (x1 : Option Addr) (l1 c1 : Nat) (d0 : w.cell? a = some (.string o1)) (d1 : w.cell? ⟨a.block, a.off + 1, none⟩ = some (.float .f64 n1)) (d2 : w.cell? ⟨a.block, a.off + 2, none⟩ = some (.string s1)) (d3 : w.cell? ⟨a.block, a.off + 3, none⟩ = some (.slice x1 l1 c1)) (o2 s2 : ByteArray) (n2 : Nat) (x2 : Option Addr) (l2 c2 : Nat) (d4 : w.cell? ⟨a.block, a.off + 4, none⟩ = some (.string o2)) (d5 : w.cell? ⟨a.block, a.off + 4 + 1, none⟩ = some (.float .f64 n2)) (d6 : w.cell? ⟨a.block, a.off + 4 + 2, none⟩ = some (.string s2)) (d7 : w.cell? ⟨a.block, a.off + 4 + 3, none⟩ = some (.slice x2 l2 c2)) (hx : x = some a) (hN : N = 2) (P Q : Bs) (hP : P.length ≤ 1000000) (hQ : Q.length ≤ 1000000) (HC : Hid (∀ W, Below w.heap.size w W → Calls Tryz.prog 26 #[.agg #[.string o1, .float .f64 n1, .string s1, .slice x1 l1 c1]] W fun e w' => e = .returned (.string (tx P)) ∧ Below W.heap.size W w')) (HCQ : Hid (∀ W, Below w.heap.size w W → Calls Tryz.prog 26 #[.agg #[.string o2, .float .f64 n2, .string s2, .slice x2 l2 c2]] W fun e w' => e = .returned (.string (tx Q)) ∧ Below W.heap.size W w'))
    (HSH : Hid (∀ W, Below w.heap.size w W → Calls Tryz.prog 24 #[.agg #[.string (tx op), .float .f64 fn, .string (tx s), .slice x N cap]] W fun e w' => e = .returned (.bool true) ∧ Below W.heap.size W w')) :
    Calls Tryz.prog 9 #[.agg #[.string (tx op), .float .f64 fn, .string (tx s), .slice x N cap]] w fun e w' => e = .returned (.string (tx (P ++ [32] ++ op ++ [32] ++ Q))) ∧ Below w.heap.size w w' := by
  subst hx
  subst hN
  have HD := Lib.hid (And.intro d0 (And.intro d1 (And.intro d2 (And.intro d3 (And.intro d4 (And.intro d5 (And.intro d6 (d7))))))))
  have zl0 : (tx P).size ≤ 1000000 := by rw [tx_size' P]; omega
  have zl1 : (tx op).size ≤ 1000000 := by rw [tx_size' op]; omega
  have zl2 : (tx Q).size ≤ 1000000 := by rw [tx_size' Q]; omega
  have zb2 : (tx P).size ≤ 9223372036854775806 := by omega
  have zb3 : (tx P).size + 1 + (tx op).size ≤ 9223372036854775807 := by omega
  have zb4 : (tx P).size + 1 + (tx op).size ≤ 9223372036854775806 := by omega
  have zb5 : (tx P).size + 1 + (tx op).size + 1 + (tx Q).size ≤ 9223372036854775807 := by omega
  have zd2 : (9223372036854775807 < (tx P).size + 1) = False := eq_false (by omega)
  have zd3 : (9223372036854775807 < (tx P).size + 1 + (tx op).size) = False := eq_false (by omega)
  have zd4 : (9223372036854775807 < (tx P).size + 1 + (tx op).size + 1) = False := eq_false (by omega)
  have zd5 : (9223372036854775807 < (tx P).size + 1 + (tx op).size + 1 + (tx Q).size) = False := eq_false (by omega)
  clear zl0
  clear zl1
  clear zl2
  have HR : Hid (tx P ++ ({ data := #[32] } : ByteArray) ++ tx op ++ ({ data := #[32] } : ByteArray) ++ tx Q = tx (P ++ [32] ++ op ++ [32] ++ Q)) := Lib.hid (by
    rw [show (P ++ [32] ++ op ++ [32] ++ Q : Bs) = P ++ [32] ++ op ++ [32] ++ Q from rfl]
    show tx P ++ tx [32] ++ tx op ++ tx [32] ++ tx Q = _
    rw [tx_app, tx_app, tx_app, tx_app])
  have bn0 : ((tx op).toList == [110, 117, 109]) = false := tx_ne hwnum
  have bn1 : ((tx op).toList == [116, 101, 120, 116]) = false := tx_ne hwtext
  have bn2 : ((tx op).toList == [110, 97, 109, 101]) = false := tx_ne hwname
  have bn3 : ((tx op).toList == [110, 111, 116]) = false := tx_ne hwnot
  have bn4 : ((tx op).toList == [110, 101, 103]) = false := tx_ne hwneg
  have bn5 : ((tx op).toList == [108, 101, 110]) = false := tx_ne hwlen
  have bn6 : ((tx op).toList == [97, 98, 115]) = false := tx_ne hwabs
  have bn7 : ((tx op).toList == [104, 97, 115]) = false := tx_ne hwhas
  clear hwnum hwtext hwname hwnot hwneg hwlen hwabs hwhas
  clear d0 d1 d2 d3 d4 d5 d6 d7
  have HB0 := Lib.hid (bel1 w (.cells #[.string (tx op), .float .f64 fn, .string (tx s), .slice (some a) 2 cap] 25))
  have HNB : Hid (NB (w.alloc (.cells #[.string (tx op), .float .f64 fn, .string (tx s), .slice (some a) 2 cap] 25)) w.heap.size (.agg #[.string (tx op), .float .f64 fn, .string (tx s), .slice (some a) 2 cap])) := Lib.hid ⟨_, _, _, _, rfl, heap_alloc_new _ _⟩
  go_enter Tryz.func9, Tryz.ntmps9
  go_upto_region 1 with (fail)
  generalize w.alloc (.cells #[.string (tx op), .float .f64 fn, .string (tx s), .slice (some a) 2 cap] 25) = W0 at HB0 HNB ⊢
  obtain ⟨p0, p1, p2, p3, _⟩ := HNB.out.cells
  have hlt := HNB.out.lt
  go_wp2_with (first | (go_at_call 24; fail))
  go_at_call 24
  refine (HSH.out W0 HB0.out).mono ?_
  rintro e w2 ⟨rfl, hb2⟩
  have HB2 := Lib.hid (HB0.out.trans (below_le hb2 HB0.out.size))
  have HNB2 := Lib.hid (HNB.out.below hb2)
  clear p0 p1 p2 p3 hlt hb2 HNB HB0 HSH
  obtain ⟨p0, p1, p2, p3, _⟩ := HNB2.out.cells
  have hlt := HNB2.out.lt
  have HSS : Hid (∀ W, Below w2.heap.size w2 W → Below w2.heap.size w2 W ∧ W.cell? ⟨w.heap.size, 0, none⟩ = some (.string (tx op)) ∧ W.cell? ⟨w.heap.size, 3, none⟩ = some (.slice (some a) 2 cap) ∧ W.cell? a = some (.string o1) ∧ W.cell? ⟨a.block, a.off + 1, none⟩ = some (.float .f64 n1) ∧ W.cell? ⟨a.block, a.off + 2, none⟩ = some (.string s1) ∧ W.cell? ⟨a.block, a.off + 3, none⟩ = some (.slice x1 l1 c1) ∧ W.cell? ⟨a.block, a.off + 4, none⟩ = some (.string o2) ∧ W.cell? ⟨a.block, a.off + 4 + 1, none⟩ = some (.float .f64 n2) ∧ W.cell? ⟨a.block, a.off + 4 + 2, none⟩ = some (.string s2) ∧ W.cell? ⟨a.block, a.off + 4 + 3, none⟩ = some (.slice x2 l2 c2)) := Lib.hid (fun W hW => by
    have k1 : W.heap[w.heap.size]? = w2.heap[w.heap.size]? := hW.block _ hlt
    have k3 : W.heap[a.block]? = w.heap[a.block]? := (hW.block _ (by omega)).trans (HB2.out.block _ hab)
    exact ⟨hW, cell_same (a := ⟨w.heap.size, 0, none⟩) k1 p0, cell_same (a := ⟨w.heap.size, 3, none⟩) k1 p3, cell_same k3 HD.out.1, cell_same (a := ⟨a.block, a.off + 1, none⟩) k3 HD.out.2.1, cell_same (a := ⟨a.block, a.off + 2, none⟩) k3 HD.out.2.2.1, cell_same (a := ⟨a.block, a.off + 3, none⟩) k3 HD.out.2.2.2.1, cell_same (a := ⟨a.block, a.off + 4, none⟩) k3 HD.out.2.2.2.2.1, cell_same (a := ⟨a.block, a.off + 4 + 1, none⟩) k3 HD.out.2.2.2.2.2.1, cell_same (a := ⟨a.block, a.off + 4 + 2, none⟩) k3 HD.out.2.2.2.2.2.2.1, cell_same (a := ⟨a.block, a.off + 4 + 3, none⟩) k3 HD.out.2.2.2.2.2.2.2⟩)
  have HC2 := Lib.hid (fun W (h : Below w2.heap.size w2 W) => HC.out W (HB2.out.trans (below_le h HB2.out.size)))
  have HC3 := Lib.hid (fun W (h : Below w2.heap.size w2 W) => HCQ.out W (HB2.out.trans (below_le h HB2.out.size)))
  obtain ⟨_, _, _, d0, d1, d2, d3, d4, d5, d6, d7⟩ := HSS.out w2 (Below.refl _ _)
  go_wp2_with fail
  go_region_held3 (fun W => Below w2.heap.size w2 W ∧ W.cell? ⟨w.heap.size, 0, none⟩ = some (.string (tx op)) ∧ W.cell? ⟨w.heap.size, 3, none⟩ = some (.slice (some a) 2 cap) ∧ W.cell? a = some (.string o1) ∧ W.cell? ⟨a.block, a.off + 1, none⟩ = some (.float .f64 n1) ∧ W.cell? ⟨a.block, a.off + 2, none⟩ = some (.string s1) ∧ W.cell? ⟨a.block, a.off + 3, none⟩ = some (.slice x1 l1 c1) ∧ W.cell? ⟨a.block, a.off + 4, none⟩ = some (.string o2) ∧ W.cell? ⟨a.block, a.off + 4 + 1, none⟩ = some (.float .f64 n2) ∧ W.cell? ⟨a.block, a.off + 4 + 2, none⟩ = some (.string s2) ∧ W.cell? ⟨a.block, a.off + 4 + 3, none⟩ = some (.slice x2 l2 c2))
    (first | exact HSS.out _ (Below.refl _ _).drew | exact HSS.out _ HB6.out | exact HSS.out _ HB5.out)
    (first | (go_at_call 26; have HB5' := HB5; (with_reducible refine (HC3.out _ HB5'.out).mono ?_); rintro e w6 ⟨rfl, hb6⟩; have HB6 := Lib.hid (HB5'.out.trans (below_le hb6 HB5'.out.size) : Below w2.heap.size w2 w6); clear hb6 HB5') | (go_at_call 26; (with_reducible refine (HC2.out _ (Below.refl _ _).drew).mono ?_); rintro e w5 ⟨rfl, hb5⟩; have HB5 := Lib.hid ((Below.refl w2.heap.size w2).drew.trans hb5 : Below w2.heap.size w2 w5); clear hb5))
  go_wp2
  go_ret
  exact ⟨ret_str HR.out, HB2.out.trans (below_le HB6.out HB2.out.size)⟩
end Go.Proofs.YtfalcmbjjlgoaaaGreatDoor
