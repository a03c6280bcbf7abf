/- Own texts, merged: V4. -/
import Derived.Lib.LaidTab
import Derived.Lib.ItoaMem
import Derived.Test.YtfalcmbjjlgoaaaGreatDoorH9
import Derived.Test.YtfalcmbjjlgoaaaGreatDoorQ2
import Derived.Test.YtfalcmbjjlgoaaaGreatDoorMT17
import Derived.Test.YtfalcmbjjlgoaaaGreatDoorShelfC
/- Walks: the text of a number: the program's. -/
namespace Go.Proofs.YtfalcmbjjlgoaaaGreatDoor
open Go.RowKit Go.Shelf Ieee Go.Lib
/-- The library's table of powers of ten. -/
def PwT (w : World) : Prop := TabIs Tryz.prog w "internal/strconv.uint64pow10" .u64 pow10Tab
theorem PwT.below {w w' : World} (h : PwT w) (hb : Below w.heap.size w w') : PwT w' := by
  have hg : Tryz.prog.globalNamed "internal/strconv.uint64pow10" = some 2 := by kernel_rfl
  unfold PwT TabIs World.var? at h ⊢
  rw [hg] at h ⊢
  simp only [Option.bind_some] at h ⊢
  have hlt : 2 < w.heap.size := by
    rcases Nat.lt_or_ge 2 w.heap.size with h' | h'
    · exact h'
    · rw [Array.getElem?_eq_none h'] at h; cases h
  rw [hb.block _ hlt]
  exact h
theorem grow_below (w : World) (k : Nat) (os : Array Obj) : Below w.heap.size w (Sort.grow (w.drewN k) os) := ⟨rfl, rfl, rfl, by simp, fun j hj => Sort.heap_grow_old _ _ (by simpa using hj)⟩
theorem call_trunc (x : Nat) (h : inN x = true) (w : World) : (callFunc 60 #[.float .f64 x]).run Tryz.prog w = .ok (.value (.float .f64 (trN x))) w := by
  rw [run_callFunc_extern (P := Tryz.prog) (f := 60) (fn := Tryz.f60) (e := Extern.MathFloor.toIntegral "math.archTrunc" .zero) (by kernel_rfl) (by kernel_rfl) (by kernel_rfl) (by kernel_rfl) (by kernel_rfl)]
  obtain ⟨K, h1, _⟩ := in_read h
  have hr : ∃ m i, double.read x = .number (isNeg x) m i := by
    cases q : double.read x with
    | number s m i => rw [q] at h1; unfold Datum.integral at h1; cases h1; exact ⟨_, _, rfl⟩
    | infinity s => rw [q] at h1; cases h1
    | nan s t => rw [q] at h1; cases h1
  obtain ⟨m, i, hr⟩ := hr
  have hd : FloatKind.f64.decode x = .number (isNeg x) m i := hr
  have ht : trN x = FloatKind.f64.encode ((Datum.number (isNeg x) m i).integral .zero) := by unfold trN; rw [hr]; rfl
  have e : Extern.MathFloor.toIntegral "math.archTrunc" .zero #[.float .f64 x] = pure (.float .f64 (trN x)) := by
    rw [ht]
    have e2 : Extern.MathFloor.toIntegral "math.archTrunc" .zero #[.float .f64 x] = (match FloatKind.f64.decode x with
      | .nan s t => if FloatKind.f64.format.quiet t = t then pure (.float .f64 x) else (choose (.extern "math.Floor,Ceil,Trunc,RoundToEven.signallingNaN kept" 2) >>= fun kept => pure (.float .f64 (if kept == 1 then x else FloatKind.f64.encode (.nan s (FloatKind.f64.format.quiet t)))))
      | d => pure (.float .f64 (FloatKind.f64.encode (d.integral .zero)))) := rfl
    rw [e2, hd]
  rw [e]
  rfl
set_option maxHeartbeats 1000000 in
theorem wtrunc (x : Nat) (h : inN x = true) (w : World) : Calls Tryz.prog 42 #[.float .f64 x] w fun e w' => e = .returned (.float .f64 (trN x)) ∧ w = w' := by
  have hb := call_trunc x h
  generalize trN x = y at hb ⊢
  clear h
  go_enter Tryz.func42, Tryz.ntmps42
  go_wp2
  go_ret
  exact ⟨rfl, rfl⟩
theorem conv_in (x : Nat) (h : inN x = true) (w : World) : (convert 22 3 (.float .f64 x)).run Tryz.prog w = .ok (.int .i64 (kN x : Int)) w := by
  refine run_convert_float_int w 22 3 .f64 .i64 x (kN x) (by kernel_rfl) Tryz.underlying3 ?_
  have hk := in_int h
  have hd : (FloatKind.f64.decode x).toInt .zero = some (kN x : Int) := hk.1
  unfold floatToIntVal
  rw [hd]
  have h1 : IntKind.i64.min ≤ (kN x : Int) ∧ (kN x : Int) ≤ IntKind.i64.max := ⟨by have : IntKind.i64.min = -9223372036854775808 := rfl; omega, by have : IntKind.i64.max = 9223372036854775807 := rfl; omega⟩
  simp only
  rw [if_pos h1]
theorem numT_out {x : Nat} (h : inN x = false) : numT x = [48] := by unfold numT okN; rw [h]; rfl
theorem itoa_dec (k : Nat) : (⟨(itoa (k : Int)).toArray⟩ : ByteArray) = tx (decDigits k) := by rw [itoa_nonneg]; rfl
/-- What two numbers' order is. -/
theorem geB_cases {a b : Nat} : (geB a b = true ∧ (FloatKind.f64.format.order a b = some .gt ∨ FloatKind.f64.format.order a b = some .eq)) ∨ (geB a b = false ∧ (FloatKind.f64.format.order a b == some .gt) = false ∧ (FloatKind.f64.format.order a b == some .eq) = false) := by
  unfold geB
  show _ ∨ (_ ∧ (double.order a b == some .gt) = false ∧ (double.order a b == some .eq) = false)
  have e : FloatKind.f64.format.order a b = double.order a b := rfl
  rw [e]
  cases double.order a b with
  | none => exact .inr ⟨rfl, rfl, rfl⟩
  | some o => cases o <;> simp
theorem lqB_cases {a b : Nat} : (lqB a b = true ∧ (FloatKind.f64.format.order a b = some .lt ∨ FloatKind.f64.format.order a b = some .eq)) ∨ (lqB a b = false ∧ (FloatKind.f64.format.order a b == some .lt) = false ∧ (FloatKind.f64.format.order a b == some .eq) = false) := by
  unfold lqB
  have e : FloatKind.f64.format.order a b = double.order a b := rfl
  rw [e]
  cases double.order a b with
  | none => exact .inr ⟨rfl, rfl, rfl⟩
  | some o => cases o <;> simp
theorem eqN_cases {a b : Nat} : (eqN a b = true ∧ FloatKind.f64.format.order a b = some .eq) ∨ (eqN a b = false ∧ (FloatKind.f64.format.order a b == some .eq) = false) := by
  unfold eqN
  have e : FloatKind.f64.format.order a b = double.order a b := rfl
  rw [e]
  cases double.order a b with
  | none => exact .inr ⟨rfl, rfl⟩
  | some o => cases o <;> simp
set_option maxHeartbeats 2000000 in
theorem wprintNum (x : Nat) (w : World) (ht : PwT w) : Calls Tryz.prog 25 #[.float .f64 x] w fun e w' => e = .returned (.string (tx (numT x))) ∧ Below w.heap.size w w' := by
  rcases geB_cases (a := x) (b := 0) with ⟨h0, o0⟩ | ⟨h0, o1, o2⟩
  · rcases lqB_cases (a := x) (b := 4831355200913801208) with ⟨h1, p0⟩ | ⟨h1, p1, p2⟩
    · have q : inN x = true := by unfold inN topN; rw [h0, h1]; rfl
      have HTR := Lib.hid (wtrunc x q)
      have hcv := conv_in x q
      have HK := Lib.hid (in_int q).2
      have HN : Hid (numT x = if eqN (trN x) x = true then decDigits (kN x) else [48]) := Lib.hid (by unfold numT okN; rw [q, in_tr q, Bool.true_and])
      have HT := Lib.hid ht
      clear q h0 h1 ht
      generalize trN x = y at HTR HN
      rcases eqN_cases (a := y) (b := x) with ⟨g, c⟩ | ⟨g, c⟩
      · have HR : Hid (numT x = decDigits (kN x)) := Lib.hid (by rw [HN.out, if_pos g])
        generalize kN x = k at hcv HR HK
        have HI := Lib.hid (fun W (h : PwT W) => Tryz.strconv_Itoa (k : Int) (by omega) (by have := HK.out; omega) W h)
        clear HN g
        rcases o0 with o0 | o0 <;> rcases p0 with p0 | p0
        all_goals
          go_enter Tryz.func25, Tryz.ntmps25
          go_wp2_with (first | (go_at_call 42; refine (HTR.out _).mono ?_; rintro e w1 ⟨rfl, rfl⟩) | (go_at_call 43; refine (HI.out _ HT.out).mono ?_; rintro e w1 ⟨rfl, kk, os, rfl⟩))
          go_ret
          exact ⟨by rw [HR.out, itoa_dec]; rfl, grow_below _ _ _⟩
      · have HR : Hid (numT x = [48]) := Lib.hid (by rw [HN.out, if_neg (by rw [g]; decide)])
        clear HN g hcv
        rcases o0 with o0 | o0 <;> rcases p0 with p0 | p0
        all_goals
          go_enter Tryz.func25, Tryz.ntmps25
          go_wp2_with (first | (go_at_call 42; refine (HTR.out _).mono ?_; rintro e w1 ⟨rfl, rfl⟩))
          go_ret
          exact ⟨by rw [HR.out]; rfl, Below.refl _ _⟩
    · have HR : Hid (numT x = [48]) := Lib.hid (numT_out (by unfold inN topN; rw [h0, h1]; rfl))
      clear h0 h1 ht
      rcases o0 with o0 | o0
      all_goals
        go_enter Tryz.func25, Tryz.ntmps25
        go_wp2_with fail
        go_ret
        exact ⟨by rw [HR.out]; rfl, Below.refl _ _⟩
  · have HR : Hid (numT x = [48]) := Lib.hid (numT_out (by unfold inN; rw [h0]; rfl))
    clear h0 ht
    go_enter Tryz.func25, Tryz.ntmps25
    go_wp2_with fail
    go_ret
    exact ⟨by rw [HR.out]; rfl, Below.refl _ _⟩
end Go.Proofs.YtfalcmbjjlgoaaaGreatDoor
