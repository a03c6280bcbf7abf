/- Walks: the reference's values. -/
import Derived.Test.YtepjdnokkgmhoaaD1
import Derived.OwnWalk
import Derived.Maps.AppendAt
namespace Go.Proofs.Ytepjdnokkgmhoaa
open Go.RowKit Go.Shelf
theorem Try.info22 : (Try.prog.info? 22).map (fun i => (i.zero, i.size, i.bytes)) = some (some (.float .f64 0), 1, 8) := by kernel_rfl
theorem info_parts22 : ∃ i0, Try.prog.info? 22 = some i0 ∧ i0.zero = some (.float .f64 0) ∧ i0.size = 1 ∧ i0.bytes = 8 := by
  have h := Try.info22
  cases hi : Try.prog.info? 22 with
  | none => rw [hi] at h; cases h
  | some i0 =>
    rw [hi] at h
    simp only [Option.map_some, Option.some.injEq, Prod.mk.injEq] at h
    exact ⟨i0, rfl, h.1, h.2.1, h.2.2⟩
def vlist (lo step k : Nat) : List Value := (List.range k).map fun i => .float .f64 (valB lo step i)
theorem vlist_succ (lo step k : Nat) : vlist lo step (k + 1) = vlist lo step k ++ [.float .f64 (valB lo step k)] := by simp [vlist, List.range_succ]
set_option maxRecDepth 100000 in
set_option maxHeartbeats 2000000 in
theorem rvalues_core (lo hi step N : Nat) (w : World) (h : stepsBad lo hi step = false) (hA : ∀ i, i < N → leB (valB lo step i) hi = true) (hr : N ≤ 10001) (hS : leB (valB lo step N) hi = false) : Calls Try.prog 27 #[.float .f64 lo, .float .f64 hi, .float .f64 step] w fun e w' => ∃ v, e = .returned (.tuple #[v, .bool true]) ∧ w'.ownsRow w.heap.size 22 1 v N (vlist lo step N) ∧ Below w.heap.size w w' := by
  obtain ⟨i0, hi0, hz0, hz1, hz2⟩ := info_parts22
  have HI := Lib.hid hi0
  have HZ0 := Lib.hid hz0
  have HZ1 := Lib.hid hz1
  have HZ2 := Lib.hid hz2
  have g := h
  simp only [stepsBad, Bool.or_eq_false_iff, Bool.not_eq_false', decide_eq_false_iff_not] at g
  obtain ⟨f1, f2, f3, g4, g5⟩ := g
  have HF1 := Lib.hid f1
  have HF2 := Lib.hid f2
  have HF3 := Lib.hid f3
  have HV := Lib.hid (fun k hk => rvalue lo step k f1 f3 hk)
  have HA := Lib.hid hA
  have HR := Lib.hid hr
  have HS := Lib.hid hS
  rcases ord_cases (fin_num f1) (fin_num f2) with ⟨k, r⟩ | ⟨k, r⟩ | ⟨k, r⟩
  case inr.inr => omega
  all_goals
    rcases ord_cases (fin_num f3) nan_zero with ⟨q, t⟩ | ⟨q, t⟩ | ⟨q, t⟩
    case inl => rw [sv_zero] at q; omega
    case inr.inl => rw [sv_zero] at q; omega
    clear k q g4 g5 h f1 f2 f3 hi0 hz0 hz1 hz2 hA hr hS
    go_enter Try.func27, Try.ntmps27
    go_wp2_with (go_at_call 49; first | ((with_reducible refine (rfinite lo _).mono ?_); rintro e w' ⟨rfl, rfl⟩; rw [HF1.out]) | ((with_reducible refine (rfinite hi _).mono ?_); rintro e w' ⟨rfl, rfl⟩; rw [HF2.out]) | ((with_reducible refine (rfinite step _).mono ?_); rintro e w' ⟨rfl, rfl⟩; rw [HF3.out]))
    go_loopw [8, 9] (fun v i wr => ∃ k : Nat, k ≤ N ∧ i = .int .i64 (k : Int) ∧ Hid (wr.ownsRow w.heap.size 22 1 v k (vlist lo step k)) ∧ Hid (Below w.heap.size w wr)) (fun _ i _ => N - (intOf i).toNat)
    case atStart => exact ⟨0, Nat.zero_le _, rfl, World.ownsRow_nil _ _ _ _, Below.refl _ _⟩
    case round =>
      obtain ⟨k, hk, rfl, HO, HB⟩ := hrel
      by_cases hlt : k < N
      · have hle := le_test true (HA.out k hlt)
        have hk1 := HR.out
        have HLT := Lib.hid hlt
        have hw : IntKind.i64.wrap ((k : Int) + 1) = (k : Int) + 1 := IntWalk.i64_in _ (by omega)
        have g1 : decide ((10001 : Int) ≤ (k : Int)) = false := by simp; omega
        have hsz := HB.out.size
        clear hk1
        go_wp2_with (first | (go_at_call 50; (with_reducible refine (HV.out k (by have := HR.out; omega) _).mono ?_); rintro e w' ⟨rfl, rfl⟩) | (at_builtin; go_loud (refine wpList_append_own _ rfl _ _ 38 rfl w.heap.size 22 i0 (.float .f64 0) 1 8 Try.underlying38 HI.out HZ0.out HZ1.out HZ2.out rfl (by decide) _ _ _ rfl (HO.out.alloc _) ⟨wr.heap.size, 0, none⟩ 1 1 [.float .f64 (valB lo step k)] rfl rfl (cell_one_new _ _ _) (by intro u hu; simp at hu; subst hu; rfl) (by have := HR.out; unfold maxLen; omega) (by have := HR.out; omega) (by simp; omega) ?_); intro v1 w1 hown1 hgrow1 hnil1; have HO1 := Lib.hid hown1; have HG1 := Lib.hid hgrow1; clear hown1 hgrow1 hnil1))
        have HX := Lib.hid (((HB.out.alloc hsz (.cells #[.float .f64 (valB lo step k)] 22)).grown HG1.out (by simp; omega) (fun j hj => (HO.out.lt j hj).1)))
        have HY : Hid (w1.ownsRow w.heap.size 22 1 v1 (k + 1) (vlist lo step (k + 1))) := by rw [vlist_succ]; exact HO1
        have hkb : k ≤ 10001 := by have := HLT.out; have := HR.out; omega
        go_roundw
        case rel => exact ⟨k + 1, by have := HLT.out; omega, by go_num, HY, HX⟩
        case measure => have := HLT.out; simp [intOf]; omega
      · obtain rfl : k = N := by omega
        have hle := le_test false HS.out
        go_wp2_with (first | (go_at_call 50; (with_reducible refine (HV.out k (by have := HR.out; omega) _).mono ?_); rintro e w' ⟨rfl, rfl⟩))
        go_ret2
        exact ⟨_, rfl, HO.out, HB.out⟩
end Go.Proofs.Ytepjdnokkgmhoaa
