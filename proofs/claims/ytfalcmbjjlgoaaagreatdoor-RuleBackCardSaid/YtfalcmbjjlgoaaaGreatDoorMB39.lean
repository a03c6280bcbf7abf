/- Own texts, merged: V4, S2, S3. -/
import Derived.Lib.LaidTab
import Derived.Lib.ItoaMem
import Derived.Test.YtfalcmbjjlgoaaaGreatDoorS1
import Derived.Test.YtfalcmbjjlgoaaaGreatDoorV2
import Derived.Test.YtfalcmbjjlgoaaaGreatDoorH9
import Derived.Test.YtfalcmbjjlgoaaaGreatDoorQ2
import Derived.Test.YtfalcmbjjlgoaaaGreatDoorQD
import Derived.Test.YtfalcmbjjlgoaaaGreatDoorShelfC
/- Walks: the text of a number: the program's. -/
namespace Go.Proofs.YtfalcmbjjlgoaaaGreatDoor
open Go.RowKit Go.Shelf Ieee Go.Lib
/-- The library's table of powers of ten. -/
def PwT (w : World) : Prop := TabIs Tryz.prog w "internal/strconv.uint64pow10" .u64 pow10Tab
theorem PwT.below {w w' : World} (h : PwT w) (hb : Below w.heap.size w w') : PwT w' := by
  have hg : Tryz.prog.globalNamed "internal/strconv.uint64pow10" = some 2 := by kernel_rfl
  unfold PwT TabIs World.var? at h ⊢
  rw [hg] at h ⊢
  simp only [Option.bind_some] at h ⊢
  have hlt : 2 < w.heap.size := by
    rcases Nat.lt_or_ge 2 w.heap.size with h' | h'
    · exact h'
    · rw [Array.getElem?_eq_none h'] at h; cases h
  rw [hb.block _ hlt]
  exact h
theorem grow_below (w : World) (k : Nat) (os : Array Obj) : Below w.heap.size w (Sort.grow (w.drewN k) os) := ⟨rfl, rfl, rfl, by simp, fun j hj => Sort.heap_grow_old _ _ (by simpa using hj)⟩
theorem call_trunc (x : Nat) (h : inN x = true) (w : World) : (callFunc 60 #[.float .f64 x]).run Tryz.prog w = .ok (.value (.float .f64 (trN x))) w := by
  rw [run_callFunc_extern (P := Tryz.prog) (f := 60) (fn := Tryz.f60) (e := Extern.MathFloor.toIntegral "math.archTrunc" .zero) (by kernel_rfl) (by kernel_rfl) (by kernel_rfl) (by kernel_rfl) (by kernel_rfl)]
  obtain ⟨K, h1, _⟩ := in_read h
  have hr : ∃ m i, double.read x = .number (isNeg x) m i := by
    cases q : double.read x with
    | number s m i => rw [q] at h1; unfold Datum.integral at h1; cases h1; exact ⟨_, _, rfl⟩
    | infinity s => rw [q] at h1; cases h1
    | nan s t => rw [q] at h1; cases h1
  obtain ⟨m, i, hr⟩ := hr
  have hd : FloatKind.f64.decode x = .number (isNeg x) m i := hr
  have ht : trN x = FloatKind.f64.encode ((Datum.number (isNeg x) m i).integral .zero) := by unfold trN; rw [hr]; rfl
  have e : Extern.MathFloor.toIntegral "math.archTrunc" .zero #[.float .f64 x] = pure (.float .f64 (trN x)) := by
    rw [ht]
    have e2 : Extern.MathFloor.toIntegral "math.archTrunc" .zero #[.float .f64 x] = (match FloatKind.f64.decode x with
      | .nan s t => if FloatKind.f64.format.quiet t = t then pure (.float .f64 x) else (choose (.extern "math.Floor,Ceil,Trunc,RoundToEven.signallingNaN kept" 2) >>= fun kept => pure (.float .f64 (if kept == 1 then x else FloatKind.f64.encode (.nan s (FloatKind.f64.format.quiet t)))))
      | d => pure (.float .f64 (FloatKind.f64.encode (d.integral .zero)))) := rfl
    rw [e2, hd]
  rw [e]
  rfl
set_option maxHeartbeats 1000000 in
theorem wtrunc (x : Nat) (h : inN x = true) (w : World) : Calls Tryz.prog 42 #[.float .f64 x] w fun e w' => e = .returned (.float .f64 (trN x)) ∧ w = w' := by
  have hb := call_trunc x h
  generalize trN x = y at hb ⊢
  clear h
  go_enter Tryz.func42, Tryz.ntmps42
  go_wp2
  go_ret
  exact ⟨rfl, rfl⟩
theorem conv_in (x : Nat) (h : inN x = true) (w : World) : (convert 22 3 (.float .f64 x)).run Tryz.prog w = .ok (.int .i64 (kN x : Int)) w := by
  refine run_convert_float_int w 22 3 .f64 .i64 x (kN x) (by kernel_rfl) Tryz.underlying3 ?_
  have hk := in_int h
  have hd : (FloatKind.f64.decode x).toInt .zero = some (kN x : Int) := hk.1
  unfold floatToIntVal
  rw [hd]
  have h1 : IntKind.i64.min ≤ (kN x : Int) ∧ (kN x : Int) ≤ IntKind.i64.max := ⟨by have : IntKind.i64.min = -9223372036854775808 := rfl; omega, by have : IntKind.i64.max = 9223372036854775807 := rfl; omega⟩
  simp only
  rw [if_pos h1]
theorem numT_out {x : Nat} (h : inN x = false) : numT x = [48] := by unfold numT okN; rw [h]; rfl
theorem itoa_dec (k : Nat) : (⟨(itoa (k : Int)).toArray⟩ : ByteArray) = tx (decDigits k) := by rw [itoa_nonneg]; rfl
/-- What two numbers' order is. -/
theorem geB_cases {a b : Nat} : (geB a b = true ∧ (FloatKind.f64.format.order a b = some .gt ∨ FloatKind.f64.format.order a b = some .eq)) ∨ (geB a b = false ∧ (FloatKind.f64.format.order a b == some .gt) = false ∧ (FloatKind.f64.format.order a b == some .eq) = false) := by
  unfold geB
  show _ ∨ (_ ∧ (double.order a b == some .gt) = false ∧ (double.order a b == some .eq) = false)
  have e : FloatKind.f64.format.order a b = double.order a b := rfl
  rw [e]
  cases double.order a b with
  | none => exact .inr ⟨rfl, rfl, rfl⟩
  | some o => cases o <;> simp
theorem lqB_cases {a b : Nat} : (lqB a b = true ∧ (FloatKind.f64.format.order a b = some .lt ∨ FloatKind.f64.format.order a b = some .eq)) ∨ (lqB a b = false ∧ (FloatKind.f64.format.order a b == some .lt) = false ∧ (FloatKind.f64.format.order a b == some .eq) = false) := by
  unfold lqB
  have e : FloatKind.f64.format.order a b = double.order a b := rfl
  rw [e]
  cases double.order a b with
  | none => exact .inr ⟨rfl, rfl, rfl⟩
  | some o => cases o <;> simp
theorem eqN_cases {a b : Nat} : (eqN a b = true ∧ FloatKind.f64.format.order a b = some .eq) ∨ (eqN a b = false ∧ (FloatKind.f64.format.order a b == some .eq) = false) := by
  unfold eqN
  have e : FloatKind.f64.format.order a b = double.order a b := rfl
  rw [e]
  cases double.order a b with
  | none => exact .inr ⟨rfl, rfl⟩
  | some o => cases o <;> simp
set_option maxHeartbeats 2000000 in
theorem wprintNum (x : Nat) (w : World) (ht : PwT w) : Calls Tryz.prog 25 #[.float .f64 x] w fun e w' => e = .returned (.string (tx (numT x))) ∧ Below w.heap.size w w' := by
  rcases geB_cases (a := x) (b := 0) with ⟨h0, o0⟩ | ⟨h0, o1, o2⟩
  · rcases lqB_cases (a := x) (b := 4831355200913801208) with ⟨h1, p0⟩ | ⟨h1, p1, p2⟩
    · have q : inN x = true := by unfold inN topN; rw [h0, h1]; rfl
      have HTR := Lib.hid (wtrunc x q)
      have hcv := conv_in x q
      have HK := Lib.hid (in_int q).2
      have HN : Hid (numT x = if eqN (trN x) x = true then decDigits (kN x) else [48]) := Lib.hid (by unfold numT okN; rw [q, in_tr q, Bool.true_and])
      have HT := Lib.hid ht
      clear q h0 h1 ht
      generalize trN x = y at HTR HN
      rcases eqN_cases (a := y) (b := x) with ⟨g, c⟩ | ⟨g, c⟩
      · have HR : Hid (numT x = decDigits (kN x)) := Lib.hid (by rw [HN.out, if_pos g])
        generalize kN x = k at hcv HR HK
        have HI := Lib.hid (fun W (h : PwT W) => Tryz.strconv_Itoa (k : Int) (by omega) (by have := HK.out; omega) W h)
        clear HN g
        rcases o0 with o0 | o0 <;> rcases p0 with p0 | p0
        all_goals
          go_enter Tryz.func25, Tryz.ntmps25
          go_wp2_with (first | (go_at_call 42; refine (HTR.out _).mono ?_; rintro e w1 ⟨rfl, rfl⟩) | (go_at_call 43; refine (HI.out _ HT.out).mono ?_; rintro e w1 ⟨rfl, kk, os, rfl⟩))
          go_ret
          exact ⟨by rw [HR.out, itoa_dec]; rfl, grow_below _ _ _⟩
      · have HR : Hid (numT x = [48]) := Lib.hid (by rw [HN.out, if_neg (by rw [g]; decide)])
        clear HN g hcv
        rcases o0 with o0 | o0 <;> rcases p0 with p0 | p0
        all_goals
          go_enter Tryz.func25, Tryz.ntmps25
          go_wp2_with (first | (go_at_call 42; refine (HTR.out _).mono ?_; rintro e w1 ⟨rfl, rfl⟩))
          go_ret
          exact ⟨by rw [HR.out]; rfl, Below.refl _ _⟩
    · have HR : Hid (numT x = [48]) := Lib.hid (numT_out (by unfold inN topN; rw [h0, h1]; rfl))
      clear h0 h1 ht
      rcases o0 with o0 | o0
      all_goals
        go_enter Tryz.func25, Tryz.ntmps25
        go_wp2_with fail
        go_ret
        exact ⟨by rw [HR.out]; rfl, Below.refl _ _⟩
  · have HR : Hid (numT x = [48]) := Lib.hid (numT_out (by unfold inN; rw [h0]; rfl))
    clear h0 ht
    go_enter Tryz.func25, Tryz.ntmps25
    go_wp2_with fail
    go_ret
    exact ⟨by rw [HR.out]; rfl, Below.refl _ _⟩
end Go.Proofs.YtfalcmbjjlgoaaaGreatDoor
/- The Ops of rules, told apart: one of twenty, or none of them (printed by gen_s2.py). -/
namespace Go.Proofs.YtfalcmbjjlgoaaaGreatDoor
open Go.RowKit Go.Shelf
theorem opcases (op : Bs) : (op = [110, 117, 109] ∧ ((tx op).toList == [110, 117, 109]) = true ∧ ((tx op).toList == [116, 101, 120, 116]) = false ∧ ((tx op).toList == [110, 97, 109, 101]) = false ∧ ((tx op).toList == [110, 111, 116]) = false ∧ ((tx op).toList == [110, 101, 103]) = false ∧ ((tx op).toList == [108, 101, 110]) = false ∧ ((tx op).toList == [97, 98, 115]) = false ∧ ((tx op).toList == [111, 114]) = false ∧ ((tx op).toList == [97, 110, 100]) = false ∧ ((tx op).toList == [104, 97, 115]) = false ∧ ((tx op).toList == [61]) = false ∧ ((tx op).toList == [33, 61]) = false ∧ ((tx op).toList == [60]) = false ∧ ((tx op).toList == [60, 61]) = false ∧ ((tx op).toList == [62]) = false ∧ ((tx op).toList == [62, 61]) = false ∧ ((tx op).toList == [43]) = false ∧ ((tx op).toList == [45]) = false ∧ ((tx op).toList == [42]) = false ∧ ((tx op).toList == [47]) = false) ∨
    (op = [116, 101, 120, 116] ∧ ((tx op).toList == [110, 117, 109]) = false ∧ ((tx op).toList == [116, 101, 120, 116]) = true ∧ ((tx op).toList == [110, 97, 109, 101]) = false ∧ ((tx op).toList == [110, 111, 116]) = false ∧ ((tx op).toList == [110, 101, 103]) = false ∧ ((tx op).toList == [108, 101, 110]) = false ∧ ((tx op).toList == [97, 98, 115]) = false ∧ ((tx op).toList == [111, 114]) = false ∧ ((tx op).toList == [97, 110, 100]) = false ∧ ((tx op).toList == [104, 97, 115]) = false ∧ ((tx op).toList == [61]) = false ∧ ((tx op).toList == [33, 61]) = false ∧ ((tx op).toList == [60]) = false ∧ ((tx op).toList == [60, 61]) = false ∧ ((tx op).toList == [62]) = false ∧ ((tx op).toList == [62, 61]) = false ∧ ((tx op).toList == [43]) = false ∧ ((tx op).toList == [45]) = false ∧ ((tx op).toList == [42]) = false ∧ ((tx op).toList == [47]) = false) ∨
    (op = [110, 97, 109, 101] ∧ ((tx op).toList == [110, 117, 109]) = false ∧ ((tx op).toList == [116, 101, 120, 116]) = false ∧ ((tx op).toList == [110, 97, 109, 101]) = true ∧ ((tx op).toList == [110, 111, 116]) = false ∧ ((tx op).toList == [110, 101, 103]) = false ∧ ((tx op).toList == [108, 101, 110]) = false ∧ ((tx op).toList == [97, 98, 115]) = false ∧ ((tx op).toList == [111, 114]) = false ∧ ((tx op).toList == [97, 110, 100]) = false ∧ ((tx op).toList == [104, 97, 115]) = false ∧ ((tx op).toList == [61]) = false ∧ ((tx op).toList == [33, 61]) = false ∧ ((tx op).toList == [60]) = false ∧ ((tx op).toList == [60, 61]) = false ∧ ((tx op).toList == [62]) = false ∧ ((tx op).toList == [62, 61]) = false ∧ ((tx op).toList == [43]) = false ∧ ((tx op).toList == [45]) = false ∧ ((tx op).toList == [42]) = false ∧ ((tx op).toList == [47]) = false) ∨
    (op = [110, 111, 116] ∧ ((tx op).toList == [110, 117, 109]) = false ∧ ((tx op).toList == [116, 101, 120, 116]) = false ∧ ((tx op).toList == [110, 97, 109, 101]) = false ∧ ((tx op).toList == [110, 111, 116]) = true ∧ ((tx op).toList == [110, 101, 103]) = false ∧ ((tx op).toList == [108, 101, 110]) = false ∧ ((tx op).toList == [97, 98, 115]) = false ∧ ((tx op).toList == [111, 114]) = false ∧ ((tx op).toList == [97, 110, 100]) = false ∧ ((tx op).toList == [104, 97, 115]) = false ∧ ((tx op).toList == [61]) = false ∧ ((tx op).toList == [33, 61]) = false ∧ ((tx op).toList == [60]) = false ∧ ((tx op).toList == [60, 61]) = false ∧ ((tx op).toList == [62]) = false ∧ ((tx op).toList == [62, 61]) = false ∧ ((tx op).toList == [43]) = false ∧ ((tx op).toList == [45]) = false ∧ ((tx op).toList == [42]) = false ∧ ((tx op).toList == [47]) = false) ∨
    (op = [110, 101, 103] ∧ ((tx op).toList == [110, 117, 109]) = false ∧ ((tx op).toList == [116, 101, 120, 116]) = false ∧ ((tx op).toList == [110, 97, 109, 101]) = false ∧ ((tx op).toList == [110, 111, 116]) = false ∧ ((tx op).toList == [110, 101, 103]) = true ∧ ((tx op).toList == [108, 101, 110]) = false ∧ ((tx op).toList == [97, 98, 115]) = false ∧ ((tx op).toList == [111, 114]) = false ∧ ((tx op).toList == [97, 110, 100]) = false ∧ ((tx op).toList == [104, 97, 115]) = false ∧ ((tx op).toList == [61]) = false ∧ ((tx op).toList == [33, 61]) = false ∧ ((tx op).toList == [60]) = false ∧ ((tx op).toList == [60, 61]) = false ∧ ((tx op).toList == [62]) = false ∧ ((tx op).toList == [62, 61]) = false ∧ ((tx op).toList == [43]) = false ∧ ((tx op).toList == [45]) = false ∧ ((tx op).toList == [42]) = false ∧ ((tx op).toList == [47]) = false) ∨
    (op = [108, 101, 110] ∧ ((tx op).toList == [110, 117, 109]) = false ∧ ((tx op).toList == [116, 101, 120, 116]) = false ∧ ((tx op).toList == [110, 97, 109, 101]) = false ∧ ((tx op).toList == [110, 111, 116]) = false ∧ ((tx op).toList == [110, 101, 103]) = false ∧ ((tx op).toList == [108, 101, 110]) = true ∧ ((tx op).toList == [97, 98, 115]) = false ∧ ((tx op).toList == [111, 114]) = false ∧ ((tx op).toList == [97, 110, 100]) = false ∧ ((tx op).toList == [104, 97, 115]) = false ∧ ((tx op).toList == [61]) = false ∧ ((tx op).toList == [33, 61]) = false ∧ ((tx op).toList == [60]) = false ∧ ((tx op).toList == [60, 61]) = false ∧ ((tx op).toList == [62]) = false ∧ ((tx op).toList == [62, 61]) = false ∧ ((tx op).toList == [43]) = false ∧ ((tx op).toList == [45]) = false ∧ ((tx op).toList == [42]) = false ∧ ((tx op).toList == [47]) = false) ∨
    (op = [97, 98, 115] ∧ ((tx op).toList == [110, 117, 109]) = false ∧ ((tx op).toList == [116, 101, 120, 116]) = false ∧ ((tx op).toList == [110, 97, 109, 101]) = false ∧ ((tx op).toList == [110, 111, 116]) = false ∧ ((tx op).toList == [110, 101, 103]) = false ∧ ((tx op).toList == [108, 101, 110]) = false ∧ ((tx op).toList == [97, 98, 115]) = true ∧ ((tx op).toList == [111, 114]) = false ∧ ((tx op).toList == [97, 110, 100]) = false ∧ ((tx op).toList == [104, 97, 115]) = false ∧ ((tx op).toList == [61]) = false ∧ ((tx op).toList == [33, 61]) = false ∧ ((tx op).toList == [60]) = false ∧ ((tx op).toList == [60, 61]) = false ∧ ((tx op).toList == [62]) = false ∧ ((tx op).toList == [62, 61]) = false ∧ ((tx op).toList == [43]) = false ∧ ((tx op).toList == [45]) = false ∧ ((tx op).toList == [42]) = false ∧ ((tx op).toList == [47]) = false) ∨
    (op = [111, 114] ∧ ((tx op).toList == [110, 117, 109]) = false ∧ ((tx op).toList == [116, 101, 120, 116]) = false ∧ ((tx op).toList == [110, 97, 109, 101]) = false ∧ ((tx op).toList == [110, 111, 116]) = false ∧ ((tx op).toList == [110, 101, 103]) = false ∧ ((tx op).toList == [108, 101, 110]) = false ∧ ((tx op).toList == [97, 98, 115]) = false ∧ ((tx op).toList == [111, 114]) = true ∧ ((tx op).toList == [97, 110, 100]) = false ∧ ((tx op).toList == [104, 97, 115]) = false ∧ ((tx op).toList == [61]) = false ∧ ((tx op).toList == [33, 61]) = false ∧ ((tx op).toList == [60]) = false ∧ ((tx op).toList == [60, 61]) = false ∧ ((tx op).toList == [62]) = false ∧ ((tx op).toList == [62, 61]) = false ∧ ((tx op).toList == [43]) = false ∧ ((tx op).toList == [45]) = false ∧ ((tx op).toList == [42]) = false ∧ ((tx op).toList == [47]) = false) ∨
    (op = [97, 110, 100] ∧ ((tx op).toList == [110, 117, 109]) = false ∧ ((tx op).toList == [116, 101, 120, 116]) = false ∧ ((tx op).toList == [110, 97, 109, 101]) = false ∧ ((tx op).toList == [110, 111, 116]) = false ∧ ((tx op).toList == [110, 101, 103]) = false ∧ ((tx op).toList == [108, 101, 110]) = false ∧ ((tx op).toList == [97, 98, 115]) = false ∧ ((tx op).toList == [111, 114]) = false ∧ ((tx op).toList == [97, 110, 100]) = true ∧ ((tx op).toList == [104, 97, 115]) = false ∧ ((tx op).toList == [61]) = false ∧ ((tx op).toList == [33, 61]) = false ∧ ((tx op).toList == [60]) = false ∧ ((tx op).toList == [60, 61]) = false ∧ ((tx op).toList == [62]) = false ∧ ((tx op).toList == [62, 61]) = false ∧ ((tx op).toList == [43]) = false ∧ ((tx op).toList == [45]) = false ∧ ((tx op).toList == [42]) = false ∧ ((tx op).toList == [47]) = false) ∨
    (op = [104, 97, 115] ∧ ((tx op).toList == [110, 117, 109]) = false ∧ ((tx op).toList == [116, 101, 120, 116]) = false ∧ ((tx op).toList == [110, 97, 109, 101]) = false ∧ ((tx op).toList == [110, 111, 116]) = false ∧ ((tx op).toList == [110, 101, 103]) = false ∧ ((tx op).toList == [108, 101, 110]) = false ∧ ((tx op).toList == [97, 98, 115]) = false ∧ ((tx op).toList == [111, 114]) = false ∧ ((tx op).toList == [97, 110, 100]) = false ∧ ((tx op).toList == [104, 97, 115]) = true ∧ ((tx op).toList == [61]) = false ∧ ((tx op).toList == [33, 61]) = false ∧ ((tx op).toList == [60]) = false ∧ ((tx op).toList == [60, 61]) = false ∧ ((tx op).toList == [62]) = false ∧ ((tx op).toList == [62, 61]) = false ∧ ((tx op).toList == [43]) = false ∧ ((tx op).toList == [45]) = false ∧ ((tx op).toList == [42]) = false ∧ ((tx op).toList == [47]) = false) ∨
    (op = [61] ∧ ((tx op).toList == [110, 117, 109]) = false ∧ ((tx op).toList == [116, 101, 120, 116]) = false ∧ ((tx op).toList == [110, 97, 109, 101]) = false ∧ ((tx op).toList == [110, 111, 116]) = false ∧ ((tx op).toList == [110, 101, 103]) = false ∧ ((tx op).toList == [108, 101, 110]) = false ∧ ((tx op).toList == [97, 98, 115]) = false ∧ ((tx op).toList == [111, 114]) = false ∧ ((tx op).toList == [97, 110, 100]) = false ∧ ((tx op).toList == [104, 97, 115]) = false ∧ ((tx op).toList == [61]) = true ∧ ((tx op).toList == [33, 61]) = false ∧ ((tx op).toList == [60]) = false ∧ ((tx op).toList == [60, 61]) = false ∧ ((tx op).toList == [62]) = false ∧ ((tx op).toList == [62, 61]) = false ∧ ((tx op).toList == [43]) = false ∧ ((tx op).toList == [45]) = false ∧ ((tx op).toList == [42]) = false ∧ ((tx op).toList == [47]) = false) ∨
    (op = [33, 61] ∧ ((tx op).toList == [110, 117, 109]) = false ∧ ((tx op).toList == [116, 101, 120, 116]) = false ∧ ((tx op).toList == [110, 97, 109, 101]) = false ∧ ((tx op).toList == [110, 111, 116]) = false ∧ ((tx op).toList == [110, 101, 103]) = false ∧ ((tx op).toList == [108, 101, 110]) = false ∧ ((tx op).toList == [97, 98, 115]) = false ∧ ((tx op).toList == [111, 114]) = false ∧ ((tx op).toList == [97, 110, 100]) = false ∧ ((tx op).toList == [104, 97, 115]) = false ∧ ((tx op).toList == [61]) = false ∧ ((tx op).toList == [33, 61]) = true ∧ ((tx op).toList == [60]) = false ∧ ((tx op).toList == [60, 61]) = false ∧ ((tx op).toList == [62]) = false ∧ ((tx op).toList == [62, 61]) = false ∧ ((tx op).toList == [43]) = false ∧ ((tx op).toList == [45]) = false ∧ ((tx op).toList == [42]) = false ∧ ((tx op).toList == [47]) = false) ∨
    (op = [60] ∧ ((tx op).toList == [110, 117, 109]) = false ∧ ((tx op).toList == [116, 101, 120, 116]) = false ∧ ((tx op).toList == [110, 97, 109, 101]) = false ∧ ((tx op).toList == [110, 111, 116]) = false ∧ ((tx op).toList == [110, 101, 103]) = false ∧ ((tx op).toList == [108, 101, 110]) = false ∧ ((tx op).toList == [97, 98, 115]) = false ∧ ((tx op).toList == [111, 114]) = false ∧ ((tx op).toList == [97, 110, 100]) = false ∧ ((tx op).toList == [104, 97, 115]) = false ∧ ((tx op).toList == [61]) = false ∧ ((tx op).toList == [33, 61]) = false ∧ ((tx op).toList == [60]) = true ∧ ((tx op).toList == [60, 61]) = false ∧ ((tx op).toList == [62]) = false ∧ ((tx op).toList == [62, 61]) = false ∧ ((tx op).toList == [43]) = false ∧ ((tx op).toList == [45]) = false ∧ ((tx op).toList == [42]) = false ∧ ((tx op).toList == [47]) = false) ∨
    (op = [60, 61] ∧ ((tx op).toList == [110, 117, 109]) = false ∧ ((tx op).toList == [116, 101, 120, 116]) = false ∧ ((tx op).toList == [110, 97, 109, 101]) = false ∧ ((tx op).toList == [110, 111, 116]) = false ∧ ((tx op).toList == [110, 101, 103]) = false ∧ ((tx op).toList == [108, 101, 110]) = false ∧ ((tx op).toList == [97, 98, 115]) = false ∧ ((tx op).toList == [111, 114]) = false ∧ ((tx op).toList == [97, 110, 100]) = false ∧ ((tx op).toList == [104, 97, 115]) = false ∧ ((tx op).toList == [61]) = false ∧ ((tx op).toList == [33, 61]) = false ∧ ((tx op).toList == [60]) = false ∧ ((tx op).toList == [60, 61]) = true ∧ ((tx op).toList == [62]) = false ∧ ((tx op).toList == [62, 61]) = false ∧ ((tx op).toList == [43]) = false ∧ ((tx op).toList == [45]) = false ∧ ((tx op).toList == [42]) = false ∧ ((tx op).toList == [47]) = false) ∨
    (op = [62] ∧ ((tx op).toList == [110, 117, 109]) = false ∧ ((tx op).toList == [116, 101, 120, 116]) = false ∧ ((tx op).toList == [110, 97, 109, 101]) = false ∧ ((tx op).toList == [110, 111, 116]) = false ∧ ((tx op).toList == [110, 101, 103]) = false ∧ ((tx op).toList == [108, 101, 110]) = false ∧ ((tx op).toList == [97, 98, 115]) = false ∧ ((tx op).toList == [111, 114]) = false ∧ ((tx op).toList == [97, 110, 100]) = false ∧ ((tx op).toList == [104, 97, 115]) = false ∧ ((tx op).toList == [61]) = false ∧ ((tx op).toList == [33, 61]) = false ∧ ((tx op).toList == [60]) = false ∧ ((tx op).toList == [60, 61]) = false ∧ ((tx op).toList == [62]) = true ∧ ((tx op).toList == [62, 61]) = false ∧ ((tx op).toList == [43]) = false ∧ ((tx op).toList == [45]) = false ∧ ((tx op).toList == [42]) = false ∧ ((tx op).toList == [47]) = false) ∨
    (op = [62, 61] ∧ ((tx op).toList == [110, 117, 109]) = false ∧ ((tx op).toList == [116, 101, 120, 116]) = false ∧ ((tx op).toList == [110, 97, 109, 101]) = false ∧ ((tx op).toList == [110, 111, 116]) = false ∧ ((tx op).toList == [110, 101, 103]) = false ∧ ((tx op).toList == [108, 101, 110]) = false ∧ ((tx op).toList == [97, 98, 115]) = false ∧ ((tx op).toList == [111, 114]) = false ∧ ((tx op).toList == [97, 110, 100]) = false ∧ ((tx op).toList == [104, 97, 115]) = false ∧ ((tx op).toList == [61]) = false ∧ ((tx op).toList == [33, 61]) = false ∧ ((tx op).toList == [60]) = false ∧ ((tx op).toList == [60, 61]) = false ∧ ((tx op).toList == [62]) = false ∧ ((tx op).toList == [62, 61]) = true ∧ ((tx op).toList == [43]) = false ∧ ((tx op).toList == [45]) = false ∧ ((tx op).toList == [42]) = false ∧ ((tx op).toList == [47]) = false) ∨
    (op = [43] ∧ ((tx op).toList == [110, 117, 109]) = false ∧ ((tx op).toList == [116, 101, 120, 116]) = false ∧ ((tx op).toList == [110, 97, 109, 101]) = false ∧ ((tx op).toList == [110, 111, 116]) = false ∧ ((tx op).toList == [110, 101, 103]) = false ∧ ((tx op).toList == [108, 101, 110]) = false ∧ ((tx op).toList == [97, 98, 115]) = false ∧ ((tx op).toList == [111, 114]) = false ∧ ((tx op).toList == [97, 110, 100]) = false ∧ ((tx op).toList == [104, 97, 115]) = false ∧ ((tx op).toList == [61]) = false ∧ ((tx op).toList == [33, 61]) = false ∧ ((tx op).toList == [60]) = false ∧ ((tx op).toList == [60, 61]) = false ∧ ((tx op).toList == [62]) = false ∧ ((tx op).toList == [62, 61]) = false ∧ ((tx op).toList == [43]) = true ∧ ((tx op).toList == [45]) = false ∧ ((tx op).toList == [42]) = false ∧ ((tx op).toList == [47]) = false) ∨
    (op = [45] ∧ ((tx op).toList == [110, 117, 109]) = false ∧ ((tx op).toList == [116, 101, 120, 116]) = false ∧ ((tx op).toList == [110, 97, 109, 101]) = false ∧ ((tx op).toList == [110, 111, 116]) = false ∧ ((tx op).toList == [110, 101, 103]) = false ∧ ((tx op).toList == [108, 101, 110]) = false ∧ ((tx op).toList == [97, 98, 115]) = false ∧ ((tx op).toList == [111, 114]) = false ∧ ((tx op).toList == [97, 110, 100]) = false ∧ ((tx op).toList == [104, 97, 115]) = false ∧ ((tx op).toList == [61]) = false ∧ ((tx op).toList == [33, 61]) = false ∧ ((tx op).toList == [60]) = false ∧ ((tx op).toList == [60, 61]) = false ∧ ((tx op).toList == [62]) = false ∧ ((tx op).toList == [62, 61]) = false ∧ ((tx op).toList == [43]) = false ∧ ((tx op).toList == [45]) = true ∧ ((tx op).toList == [42]) = false ∧ ((tx op).toList == [47]) = false) ∨
    (op = [42] ∧ ((tx op).toList == [110, 117, 109]) = false ∧ ((tx op).toList == [116, 101, 120, 116]) = false ∧ ((tx op).toList == [110, 97, 109, 101]) = false ∧ ((tx op).toList == [110, 111, 116]) = false ∧ ((tx op).toList == [110, 101, 103]) = false ∧ ((tx op).toList == [108, 101, 110]) = false ∧ ((tx op).toList == [97, 98, 115]) = false ∧ ((tx op).toList == [111, 114]) = false ∧ ((tx op).toList == [97, 110, 100]) = false ∧ ((tx op).toList == [104, 97, 115]) = false ∧ ((tx op).toList == [61]) = false ∧ ((tx op).toList == [33, 61]) = false ∧ ((tx op).toList == [60]) = false ∧ ((tx op).toList == [60, 61]) = false ∧ ((tx op).toList == [62]) = false ∧ ((tx op).toList == [62, 61]) = false ∧ ((tx op).toList == [43]) = false ∧ ((tx op).toList == [45]) = false ∧ ((tx op).toList == [42]) = true ∧ ((tx op).toList == [47]) = false) ∨
    (op = [47] ∧ ((tx op).toList == [110, 117, 109]) = false ∧ ((tx op).toList == [116, 101, 120, 116]) = false ∧ ((tx op).toList == [110, 97, 109, 101]) = false ∧ ((tx op).toList == [110, 111, 116]) = false ∧ ((tx op).toList == [110, 101, 103]) = false ∧ ((tx op).toList == [108, 101, 110]) = false ∧ ((tx op).toList == [97, 98, 115]) = false ∧ ((tx op).toList == [111, 114]) = false ∧ ((tx op).toList == [97, 110, 100]) = false ∧ ((tx op).toList == [104, 97, 115]) = false ∧ ((tx op).toList == [61]) = false ∧ ((tx op).toList == [33, 61]) = false ∧ ((tx op).toList == [60]) = false ∧ ((tx op).toList == [60, 61]) = false ∧ ((tx op).toList == [62]) = false ∧ ((tx op).toList == [62, 61]) = false ∧ ((tx op).toList == [43]) = false ∧ ((tx op).toList == [45]) = false ∧ ((tx op).toList == [42]) = false ∧ ((tx op).toList == [47]) = true) ∨
    ((op ≠ [110, 117, 109] ∧ op ≠ [116, 101, 120, 116] ∧ op ≠ [110, 97, 109, 101] ∧ op ≠ [110, 111, 116] ∧ op ≠ [110, 101, 103] ∧ op ≠ [108, 101, 110] ∧ op ≠ [97, 98, 115] ∧ op ≠ [111, 114] ∧ op ≠ [97, 110, 100] ∧ op ≠ [104, 97, 115] ∧ op ≠ [61] ∧ op ≠ [33, 61] ∧ op ≠ [60] ∧ op ≠ [60, 61] ∧ op ≠ [62] ∧ op ≠ [62, 61] ∧ op ≠ [43] ∧ op ≠ [45] ∧ op ≠ [42] ∧ op ≠ [47]) ∧ ((tx op).toList == [110, 117, 109]) = false ∧ ((tx op).toList == [116, 101, 120, 116]) = false ∧ ((tx op).toList == [110, 97, 109, 101]) = false ∧ ((tx op).toList == [110, 111, 116]) = false ∧ ((tx op).toList == [110, 101, 103]) = false ∧ ((tx op).toList == [108, 101, 110]) = false ∧ ((tx op).toList == [97, 98, 115]) = false ∧ ((tx op).toList == [111, 114]) = false ∧ ((tx op).toList == [97, 110, 100]) = false ∧ ((tx op).toList == [104, 97, 115]) = false ∧ ((tx op).toList == [61]) = false ∧ ((tx op).toList == [33, 61]) = false ∧ ((tx op).toList == [60]) = false ∧ ((tx op).toList == [60, 61]) = false ∧ ((tx op).toList == [62]) = false ∧ ((tx op).toList == [62, 61]) = false ∧ ((tx op).toList == [43]) = false ∧ ((tx op).toList == [45]) = false ∧ ((tx op).toList == [42]) = false ∧ ((tx op).toList == [47]) = false) := by
  by_cases q0 : op = [110, 117, 109]
  · subst q0
    exact .inl (⟨rfl, tx_same _, tx_ne (by decide), tx_ne (by decide), tx_ne (by decide), tx_ne (by decide), tx_ne (by decide), tx_ne (by decide), tx_ne (by decide), tx_ne (by decide), tx_ne (by decide), tx_ne (by decide), tx_ne (by decide), tx_ne (by decide), tx_ne (by decide), tx_ne (by decide), tx_ne (by decide), tx_ne (by decide), tx_ne (by decide), tx_ne (by decide), tx_ne (by decide)⟩)
  by_cases q1 : op = [116, 101, 120, 116]
  · subst q1
    exact .inr (.inl (⟨rfl, tx_ne (by decide), tx_same _, tx_ne (by decide), tx_ne (by decide), tx_ne (by decide), tx_ne (by decide), tx_ne (by decide), tx_ne (by decide), tx_ne (by decide), tx_ne (by decide), tx_ne (by decide), tx_ne (by decide), tx_ne (by decide), tx_ne (by decide), tx_ne (by decide), tx_ne (by decide), tx_ne (by decide), tx_ne (by decide), tx_ne (by decide), tx_ne (by decide)⟩))
  by_cases q2 : op = [110, 97, 109, 101]
  · subst q2
    exact .inr (.inr (.inl (⟨rfl, tx_ne (by decide), tx_ne (by decide), tx_same _, tx_ne (by decide), tx_ne (by decide), tx_ne (by decide), tx_ne (by decide), tx_ne (by decide), tx_ne (by decide), tx_ne (by decide), tx_ne (by decide), tx_ne (by decide), tx_ne (by decide), tx_ne (by decide), tx_ne (by decide), tx_ne (by decide), tx_ne (by decide), tx_ne (by decide), tx_ne (by decide), tx_ne (by decide)⟩)))
  by_cases q3 : op = [110, 111, 116]
  · subst q3
    exact .inr (.inr (.inr (.inl (⟨rfl, tx_ne (by decide), tx_ne (by decide), tx_ne (by decide), tx_same _, tx_ne (by decide), tx_ne (by decide), tx_ne (by decide), tx_ne (by decide), tx_ne (by decide), tx_ne (by decide), tx_ne (by decide), tx_ne (by decide), tx_ne (by decide), tx_ne (by decide), tx_ne (by decide), tx_ne (by decide), tx_ne (by decide), tx_ne (by decide), tx_ne (by decide), tx_ne (by decide)⟩))))
  by_cases q4 : op = [110, 101, 103]
  · subst q4
    exact .inr (.inr (.inr (.inr (.inl (⟨rfl, tx_ne (by decide), tx_ne (by decide), tx_ne (by decide), tx_ne (by decide), tx_same _, tx_ne (by decide), tx_ne (by decide), tx_ne (by decide), tx_ne (by decide), tx_ne (by decide), tx_ne (by decide), tx_ne (by decide), tx_ne (by decide), tx_ne (by decide), tx_ne (by decide), tx_ne (by decide), tx_ne (by decide), tx_ne (by decide), tx_ne (by decide), tx_ne (by decide)⟩)))))
  by_cases q5 : op = [108, 101, 110]
  · subst q5
    exact .inr (.inr (.inr (.inr (.inr (.inl (⟨rfl, tx_ne (by decide), tx_ne (by decide), tx_ne (by decide), tx_ne (by decide), tx_ne (by decide), tx_same _, tx_ne (by decide), tx_ne (by decide), tx_ne (by decide), tx_ne (by decide), tx_ne (by decide), tx_ne (by decide), tx_ne (by decide), tx_ne (by decide), tx_ne (by decide), tx_ne (by decide), tx_ne (by decide), tx_ne (by decide), tx_ne (by decide), tx_ne (by decide)⟩))))))
  by_cases q6 : op = [97, 98, 115]
  · subst q6
    exact .inr (.inr (.inr (.inr (.inr (.inr (.inl (⟨rfl, tx_ne (by decide), tx_ne (by decide), tx_ne (by decide), tx_ne (by decide), tx_ne (by decide), tx_ne (by decide), tx_same _, tx_ne (by decide), tx_ne (by decide), tx_ne (by decide), tx_ne (by decide), tx_ne (by decide), tx_ne (by decide), tx_ne (by decide), tx_ne (by decide), tx_ne (by decide), tx_ne (by decide), tx_ne (by decide), tx_ne (by decide), tx_ne (by decide)⟩)))))))
  by_cases q7 : op = [111, 114]
  · subst q7
    exact .inr (.inr (.inr (.inr (.inr (.inr (.inr (.inl (⟨rfl, tx_ne (by decide), tx_ne (by decide), tx_ne (by decide), tx_ne (by decide), tx_ne (by decide), tx_ne (by decide), tx_ne (by decide), tx_same _, tx_ne (by decide), tx_ne (by decide), tx_ne (by decide), tx_ne (by decide), tx_ne (by decide), tx_ne (by decide), tx_ne (by decide), tx_ne (by decide), tx_ne (by decide), tx_ne (by decide), tx_ne (by decide), tx_ne (by decide)⟩))))))))
  by_cases q8 : op = [97, 110, 100]
  · subst q8
    exact .inr (.inr (.inr (.inr (.inr (.inr (.inr (.inr (.inl (⟨rfl, tx_ne (by decide), tx_ne (by decide), tx_ne (by decide), tx_ne (by decide), tx_ne (by decide), tx_ne (by decide), tx_ne (by decide), tx_ne (by decide), tx_same _, tx_ne (by decide), tx_ne (by decide), tx_ne (by decide), tx_ne (by decide), tx_ne (by decide), tx_ne (by decide), tx_ne (by decide), tx_ne (by decide), tx_ne (by decide), tx_ne (by decide), tx_ne (by decide)⟩)))))))))
  by_cases q9 : op = [104, 97, 115]
  · subst q9
    exact .inr (.inr (.inr (.inr (.inr (.inr (.inr (.inr (.inr (.inl (⟨rfl, tx_ne (by decide), tx_ne (by decide), tx_ne (by decide), tx_ne (by decide), tx_ne (by decide), tx_ne (by decide), tx_ne (by decide), tx_ne (by decide), tx_ne (by decide), tx_same _, tx_ne (by decide), tx_ne (by decide), tx_ne (by decide), tx_ne (by decide), tx_ne (by decide), tx_ne (by decide), tx_ne (by decide), tx_ne (by decide), tx_ne (by decide), tx_ne (by decide)⟩))))))))))
  by_cases q10 : op = [61]
  · subst q10
    exact .inr (.inr (.inr (.inr (.inr (.inr (.inr (.inr (.inr (.inr (.inl (⟨rfl, tx_ne (by decide), tx_ne (by decide), tx_ne (by decide), tx_ne (by decide), tx_ne (by decide), tx_ne (by decide), tx_ne (by decide), tx_ne (by decide), tx_ne (by decide), tx_ne (by decide), tx_same _, tx_ne (by decide), tx_ne (by decide), tx_ne (by decide), tx_ne (by decide), tx_ne (by decide), tx_ne (by decide), tx_ne (by decide), tx_ne (by decide), tx_ne (by decide)⟩)))))))))))
  by_cases q11 : op = [33, 61]
  · subst q11
    exact .inr (.inr (.inr (.inr (.inr (.inr (.inr (.inr (.inr (.inr (.inr (.inl (⟨rfl, tx_ne (by decide), tx_ne (by decide), tx_ne (by decide), tx_ne (by decide), tx_ne (by decide), tx_ne (by decide), tx_ne (by decide), tx_ne (by decide), tx_ne (by decide), tx_ne (by decide), tx_ne (by decide), tx_same _, tx_ne (by decide), tx_ne (by decide), tx_ne (by decide), tx_ne (by decide), tx_ne (by decide), tx_ne (by decide), tx_ne (by decide), tx_ne (by decide)⟩))))))))))))
  by_cases q12 : op = [60]
  · subst q12
    exact .inr (.inr (.inr (.inr (.inr (.inr (.inr (.inr (.inr (.inr (.inr (.inr (.inl (⟨rfl, tx_ne (by decide), tx_ne (by decide), tx_ne (by decide), tx_ne (by decide), tx_ne (by decide), tx_ne (by decide), tx_ne (by decide), tx_ne (by decide), tx_ne (by decide), tx_ne (by decide), tx_ne (by decide), tx_ne (by decide), tx_same _, tx_ne (by decide), tx_ne (by decide), tx_ne (by decide), tx_ne (by decide), tx_ne (by decide), tx_ne (by decide), tx_ne (by decide)⟩)))))))))))))
  by_cases q13 : op = [60, 61]
  · subst q13
    exact .inr (.inr (.inr (.inr (.inr (.inr (.inr (.inr (.inr (.inr (.inr (.inr (.inr (.inl (⟨rfl, tx_ne (by decide), tx_ne (by decide), tx_ne (by decide), tx_ne (by decide), tx_ne (by decide), tx_ne (by decide), tx_ne (by decide), tx_ne (by decide), tx_ne (by decide), tx_ne (by decide), tx_ne (by decide), tx_ne (by decide), tx_ne (by decide), tx_same _, tx_ne (by decide), tx_ne (by decide), tx_ne (by decide), tx_ne (by decide), tx_ne (by decide), tx_ne (by decide)⟩))))))))))))))
  by_cases q14 : op = [62]
  · subst q14
    exact .inr (.inr (.inr (.inr (.inr (.inr (.inr (.inr (.inr (.inr (.inr (.inr (.inr (.inr (.inl (⟨rfl, tx_ne (by decide), tx_ne (by decide), tx_ne (by decide), tx_ne (by decide), tx_ne (by decide), tx_ne (by decide), tx_ne (by decide), tx_ne (by decide), tx_ne (by decide), tx_ne (by decide), tx_ne (by decide), tx_ne (by decide), tx_ne (by decide), tx_ne (by decide), tx_same _, tx_ne (by decide), tx_ne (by decide), tx_ne (by decide), tx_ne (by decide), tx_ne (by decide)⟩)))))))))))))))
  by_cases q15 : op = [62, 61]
  · subst q15
    exact .inr (.inr (.inr (.inr (.inr (.inr (.inr (.inr (.inr (.inr (.inr (.inr (.inr (.inr (.inr (.inl (⟨rfl, tx_ne (by decide), tx_ne (by decide), tx_ne (by decide), tx_ne (by decide), tx_ne (by decide), tx_ne (by decide), tx_ne (by decide), tx_ne (by decide), tx_ne (by decide), tx_ne (by decide), tx_ne (by decide), tx_ne (by decide), tx_ne (by decide), tx_ne (by decide), tx_ne (by decide), tx_same _, tx_ne (by decide), tx_ne (by decide), tx_ne (by decide), tx_ne (by decide)⟩))))))))))))))))
  by_cases q16 : op = [43]
  · subst q16
    exact .inr (.inr (.inr (.inr (.inr (.inr (.inr (.inr (.inr (.inr (.inr (.inr (.inr (.inr (.inr (.inr (.inl (⟨rfl, tx_ne (by decide), tx_ne (by decide), tx_ne (by decide), tx_ne (by decide), tx_ne (by decide), tx_ne (by decide), tx_ne (by decide), tx_ne (by decide), tx_ne (by decide), tx_ne (by decide), tx_ne (by decide), tx_ne (by decide), tx_ne (by decide), tx_ne (by decide), tx_ne (by decide), tx_ne (by decide), tx_same _, tx_ne (by decide), tx_ne (by decide), tx_ne (by decide)⟩)))))))))))))))))
  by_cases q17 : op = [45]
  · subst q17
    exact .inr (.inr (.inr (.inr (.inr (.inr (.inr (.inr (.inr (.inr (.inr (.inr (.inr (.inr (.inr (.inr (.inr (.inl (⟨rfl, tx_ne (by decide), tx_ne (by decide), tx_ne (by decide), tx_ne (by decide), tx_ne (by decide), tx_ne (by decide), tx_ne (by decide), tx_ne (by decide), tx_ne (by decide), tx_ne (by decide), tx_ne (by decide), tx_ne (by decide), tx_ne (by decide), tx_ne (by decide), tx_ne (by decide), tx_ne (by decide), tx_ne (by decide), tx_same _, tx_ne (by decide), tx_ne (by decide)⟩))))))))))))))))))
  by_cases q18 : op = [42]
  · subst q18
    exact .inr (.inr (.inr (.inr (.inr (.inr (.inr (.inr (.inr (.inr (.inr (.inr (.inr (.inr (.inr (.inr (.inr (.inr (.inl (⟨rfl, tx_ne (by decide), tx_ne (by decide), tx_ne (by decide), tx_ne (by decide), tx_ne (by decide), tx_ne (by decide), tx_ne (by decide), tx_ne (by decide), tx_ne (by decide), tx_ne (by decide), tx_ne (by decide), tx_ne (by decide), tx_ne (by decide), tx_ne (by decide), tx_ne (by decide), tx_ne (by decide), tx_ne (by decide), tx_ne (by decide), tx_same _, tx_ne (by decide)⟩)))))))))))))))))))
  by_cases q19 : op = [47]
  · subst q19
    exact .inr (.inr (.inr (.inr (.inr (.inr (.inr (.inr (.inr (.inr (.inr (.inr (.inr (.inr (.inr (.inr (.inr (.inr (.inr (.inl (⟨rfl, tx_ne (by decide), tx_ne (by decide), tx_ne (by decide), tx_ne (by decide), tx_ne (by decide), tx_ne (by decide), tx_ne (by decide), tx_ne (by decide), tx_ne (by decide), tx_ne (by decide), tx_ne (by decide), tx_ne (by decide), tx_ne (by decide), tx_ne (by decide), tx_ne (by decide), tx_ne (by decide), tx_ne (by decide), tx_ne (by decide), tx_ne (by decide), tx_same _⟩))))))))))))))))))))
  exact .inr (.inr (.inr (.inr (.inr (.inr (.inr (.inr (.inr (.inr (.inr (.inr (.inr (.inr (.inr (.inr (.inr (.inr (.inr (.inr (⟨⟨q0, q1, q2, q3, q4, q5, q6, q7, q8, q9, q10, q11, q12, q13, q14, q15, q16, q17, q18, q19⟩, tx_ne q0, tx_ne q1, tx_ne q2, tx_ne q3, tx_ne q4, tx_ne q5, tx_ne q6, tx_ne q7, tx_ne q8, tx_ne q9, tx_ne q10, tx_ne q11, tx_ne q12, tx_ne q13, tx_ne q14, tx_ne q15, tx_ne q16, tx_ne q17, tx_ne q18, tx_ne q19⟩))))))))))))))))))))
end Go.Proofs.YtfalcmbjjlgoaaaGreatDoor
/- Walks over the Ops told apart: arity, given, all, made (printed by gen_s3.py). -/
namespace Go.Proofs.YtfalcmbjjlgoaaaGreatDoor
open Go.RowKit Go.Shelf
attribute [local go_sem] run_store_float
theorem takes_none {op : Bs} (h : op ≠ [110, 117, 109] ∧ op ≠ [116, 101, 120, 116] ∧ op ≠ [110, 97, 109, 101] ∧ op ≠ [110, 111, 116] ∧ op ≠ [110, 101, 103] ∧ op ≠ [108, 101, 110] ∧ op ≠ [97, 98, 115] ∧ op ≠ [111, 114] ∧ op ≠ [97, 110, 100] ∧ op ≠ [104, 97, 115] ∧ op ≠ [61] ∧ op ≠ [33, 61] ∧ op ≠ [60] ∧ op ≠ [60, 61] ∧ op ≠ [62] ∧ op ≠ [62, 61] ∧ op ≠ [43] ∧ op ≠ [45] ∧ op ≠ [42] ∧ op ≠ [47]) : takesT op = none := by
  simp [takesT, isCmp, wnum, wtext, wname, wnot, wneg, wlen, wabs, wor, wand, whas, wplus, wminus, wtimes, wover, h]
theorem made_else {op : Bs} (l : List Nat) (h : op ≠ [110, 117, 109] ∧ op ≠ [116, 101, 120, 116] ∧ op ≠ [110, 97, 109, 101] ∧ op ≠ [110, 111, 116] ∧ op ≠ [110, 101, 103] ∧ op ≠ [108, 101, 110] ∧ op ≠ [97, 98, 115] ∧ op ≠ [111, 114] ∧ op ≠ [97, 110, 100] ∧ op ≠ [104, 97, 115] ∧ op ≠ [61] ∧ op ≠ [33, 61] ∧ op ≠ [60] ∧ op ≠ [60, 61] ∧ op ≠ [62] ∧ op ≠ [62, 61] ∧ op ≠ [43] ∧ op ≠ [45] ∧ op ≠ [42] ∧ op ≠ [47]) : madeT op l = giv 3 (allT 3 l) := by
  simp [madeT, wplus, wminus, wtimes, wover, wneg, wabs, wlen, wlt, wle, wgt, wge, weq, wne, whas, h]
set_option maxHeartbeats 4000000 in
theorem warity (op : Bs) (w : World) : Calls Tryz.prog 41 #[.string (tx op)] w fun e w' => e = .returned (.tuple #[.int .i64 ((takesT op).getD 0 : Nat), .bool (takesT op).isSome]) ∧ w = w' := by
  rcases opcases op with ⟨ho, b0, b1, b2, b3, b4, b5, b6, b7, b8, b9, b10, b11, b12, b13, b14, b15, b16, b17, b18, b19⟩ | ⟨ho, b0, b1, b2, b3, b4, b5, b6, b7, b8, b9, b10, b11, b12, b13, b14, b15, b16, b17, b18, b19⟩ | ⟨ho, b0, b1, b2, b3, b4, b5, b6, b7, b8, b9, b10, b11, b12, b13, b14, b15, b16, b17, b18, b19⟩ | ⟨ho, b0, b1, b2, b3, b4, b5, b6, b7, b8, b9, b10, b11, b12, b13, b14, b15, b16, b17, b18, b19⟩ | ⟨ho, b0, b1, b2, b3, b4, b5, b6, b7, b8, b9, b10, b11, b12, b13, b14, b15, b16, b17, b18, b19⟩ | ⟨ho, b0, b1, b2, b3, b4, b5, b6, b7, b8, b9, b10, b11, b12, b13, b14, b15, b16, b17, b18, b19⟩ | ⟨ho, b0, b1, b2, b3, b4, b5, b6, b7, b8, b9, b10, b11, b12, b13, b14, b15, b16, b17, b18, b19⟩ | ⟨ho, b0, b1, b2, b3, b4, b5, b6, b7, b8, b9, b10, b11, b12, b13, b14, b15, b16, b17, b18, b19⟩ | ⟨ho, b0, b1, b2, b3, b4, b5, b6, b7, b8, b9, b10, b11, b12, b13, b14, b15, b16, b17, b18, b19⟩ | ⟨ho, b0, b1, b2, b3, b4, b5, b6, b7, b8, b9, b10, b11, b12, b13, b14, b15, b16, b17, b18, b19⟩ | ⟨ho, b0, b1, b2, b3, b4, b5, b6, b7, b8, b9, b10, b11, b12, b13, b14, b15, b16, b17, b18, b19⟩ | ⟨ho, b0, b1, b2, b3, b4, b5, b6, b7, b8, b9, b10, b11, b12, b13, b14, b15, b16, b17, b18, b19⟩ | ⟨ho, b0, b1, b2, b3, b4, b5, b6, b7, b8, b9, b10, b11, b12, b13, b14, b15, b16, b17, b18, b19⟩ | ⟨ho, b0, b1, b2, b3, b4, b5, b6, b7, b8, b9, b10, b11, b12, b13, b14, b15, b16, b17, b18, b19⟩ | ⟨ho, b0, b1, b2, b3, b4, b5, b6, b7, b8, b9, b10, b11, b12, b13, b14, b15, b16, b17, b18, b19⟩ | ⟨ho, b0, b1, b2, b3, b4, b5, b6, b7, b8, b9, b10, b11, b12, b13, b14, b15, b16, b17, b18, b19⟩ | ⟨ho, b0, b1, b2, b3, b4, b5, b6, b7, b8, b9, b10, b11, b12, b13, b14, b15, b16, b17, b18, b19⟩ | ⟨ho, b0, b1, b2, b3, b4, b5, b6, b7, b8, b9, b10, b11, b12, b13, b14, b15, b16, b17, b18, b19⟩ | ⟨ho, b0, b1, b2, b3, b4, b5, b6, b7, b8, b9, b10, b11, b12, b13, b14, b15, b16, b17, b18, b19⟩ | ⟨ho, b0, b1, b2, b3, b4, b5, b6, b7, b8, b9, b10, b11, b12, b13, b14, b15, b16, b17, b18, b19⟩ | ⟨ho, b0, b1, b2, b3, b4, b5, b6, b7, b8, b9, b10, b11, b12, b13, b14, b15, b16, b17, b18, b19⟩
  all_goals
    first
      | (have hT : takesT op = some 0 := (by subst ho; decide); rw [hT]; clear ho hT)
      | (have hT : takesT op = some 1 := (by subst ho; decide); rw [hT]; clear ho hT)
      | (have hT : takesT op = some 2 := (by subst ho; decide); rw [hT]; clear ho hT)
      | (rw [takes_none ho]; clear ho)
    generalize tx op = T at *
    go_enter Tryz.func41, Tryz.ntmps41
    go_wp2
    go_ret2
    exact ⟨rfl, rfl⟩
theorem wgiven (k : Nat) (c : Bool) (w : World) : Calls Tryz.prog 63 #[.int .i64 k, .bool c] w fun e w' => e = .returned (.int .i64 (giv k c : Nat)) ∧ w = w' := by
  cases c
  · go_enter Tryz.func63, Tryz.ntmps63
    go_wp2
    go_ret
    exact ⟨rfl, rfl⟩
  · go_enter Tryz.func63, Tryz.ntmps63
    go_wp2
    go_ret
    exact ⟨rfl, rfl⟩
/-- Types in memory. -/
def TyV (w : World) (v : Value) (L : List Nat) : Prop := ∃ x cap, v = .slice x L.length cap ∧ L.length ≤ cap ∧ (x = none → L = []) ∧ ∀ a, x = some a → ∀ i t, L[i]? = some t → w.cell? (a.add i) = some (.int .i64 (t : Nat))
set_option maxHeartbeats 4000000 in
theorem wallT (v : Value) (L : List Nat) (k : Nat) (hL : L.length ≤ 1000000) (w : World) (h : TyV w v L) : Calls Tryz.prog 64 #[v, .int .i64 k] w fun e w' => e = .returned (.bool (allT k L)) ∧ w = w' := by
  obtain ⟨x, cap, rfl, hcap, hx, hc⟩ := h
  have HC := Lib.hid hc
  have HX := Lib.hid hx
  obtain ⟨N, hN⟩ : ∃ N, N = L.length := ⟨_, rfl⟩
  have HN := Lib.hid hN
  rw [← hN] at hL hcap ⊢
  clear hc hx hN
  go_enter Tryz.func64, Tryz.ntmps64
  go_wp2_with fail
  go_loopg [9] N (fun gh i wr => ∃ j : Nat, j + gh = N ∧ i = .int .i64 j ∧ Hid (∀ i, i < j → L.getD i 0 = k) ∧ w = wr)
  case atStart => exact ⟨0, by omega, rfl, Lib.hid (fun i h => by omega), rfl⟩
  case round =>
    obtain ⟨j, hj, rfl, HA, rfl⟩ := hrel
    by_cases q : j < N
    · have hjl : j < L.length := by have := HN.out; omega
      obtain ⟨a, rfl⟩ : ∃ a, x = some a := by
        cases x with
        | none => have := HX.out rfl; rw [this] at hjl; cases hjl
        | some a => exact ⟨a, rfl⟩
      have c0 := HC.out a rfl j L[j] (List.getElem?_eq_getElem hjl)
      have HG : Hid (L.getD j 0 = L[j]) := Lib.hid (by rw [List.getD_eq_getElem?_getD, List.getElem?_eq_getElem hjl]; rfl)
      by_cases q2 : L[j] = k
      · have HA2 : Hid (∀ i, i < j + 1 → L.getD i 0 = k) := Lib.hid (fun i hi => by
          by_cases e : i = j
          · rw [e, HG.out, q2]
          · exact HA.out i (by omega))
        rw [q2] at c0
        clear q2 HG
        go_wp2
        go_roundg (gk - 1)
        case measure => omega
        case rel => exact ⟨j + 1, by omega, by go_num, HA2, rfl⟩
      · have HF : Hid (allT k L = false) := Lib.hid (by
          unfold allT
          rw [List.all_eq_false]
          exact ⟨L[j], List.getElem_mem hjl, by simpa using q2⟩)
        have q3 : ¬ ((L[j] : Nat) : Int) = (k : Int) := by omega
        clear HG
        generalize L[j] = t at c0 q2 q3
        go_wp2
        go_ret
        exact ⟨ret_bool HF.out.symm, rfl⟩
    · have HT : Hid (allT k L = true) := Lib.hid (by
        unfold allT
        rw [List.all_eq_true]
        intro t ht
        obtain ⟨i, hi, rfl⟩ := List.getElem_of_mem ht
        have := HA.out i (by have := HN.out; omega)
        rw [List.getD_eq_getElem?_getD, List.getElem?_eq_getElem hi] at this
        simpa using this)
      go_wp2
      go_ret
      exact ⟨ret_bool HT.out.symm, rfl⟩
end Go.Proofs.YtfalcmbjjlgoaaaGreatDoor
