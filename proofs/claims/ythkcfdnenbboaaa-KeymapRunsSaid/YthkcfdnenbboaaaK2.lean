/- Which keys may be: Check of the program and of the reference. -/
import Derived.Test.YthkcfdnenbboaaaK1
namespace Go.Proofs.Ythkcfdnenbboaaa
open Go.RowKit Go.Shelf
set_option maxHeartbeats 800000 in
theorem wctrl (s : ByteArray) (hs : s.size ≤ 140737488355328) (w : World) : Calls Try.prog 42 #[.string s] w fun e w' => e = .returned (.bool (signB s)) ∧ w = w' := by
  by_cases h : s.size = 1
  · obtain ⟨c, rfl⟩ := one_byte h
    have hc := c.toNat_lt
    generalize hS : signB ⟨#[c]⟩ = S
    simp only [signB] at hS
    clear h
    go_enter Try.func42, Try.ntmps42
    go_wp2
    all_goals (
      go_ret
      refine ⟨?_, rfl⟩
      have e : ∀ h, ((⟨#[c]⟩ : ByteArray)[0]'h) = c := fun _ => rfl
      simp only [e] at *
      subst hS
      refine ret_bool ?_
      rw [Bool.eq_iff_iff]
      simp
      omega)
  · rw [signB_not h]
    go_enter Try.func42, Try.ntmps42
    go_wp2
    all_goals (go_ret; first | exact ⟨rfl, rfl⟩ | (exfalso; omega))
structure Ky where
  code : Int
  s : ByteArray
  n : Int
  alt : Bool
  shift : Bool
  ctl : Bool
def Ky.v (k : Ky) : Value := .agg #[.int .i64 k.code, .string k.s, .int .i64 k.n, .bool k.alt, .bool k.shift, .bool k.ctl]
structure Ky.In (k : Ky) : Prop where
  c : -9223372036854775808 ≤ k.code ∧ k.code ≤ 9223372036854775807
  n : -9223372036854775808 ≤ k.n ∧ k.n ≤ 9223372036854775807
  s : k.s.size ≤ 140737488355328
def okS (c : Int) (s : ByteArray) : Bool := if c = 1 ∨ c = 16 then decide (s.size ≤ 65536) else if c = 17 then signB s else decide (s.toList = [])
def okN (c n : Int) : Bool := if c = 18 then decide (1 ≤ n) && decide (n ≤ 12) else decide (n = 0)
def Ky.ok (k : Ky) : Bool := (decide (1 ≤ k.code) && decide (k.code ≤ 18)) && (okS k.code k.s && okN k.code k.n)
def Ky.err (k : Ky) : Int := if k.ok then 0 else 80
set_option maxHeartbeats 800000 in
theorem wcheck (k : Ky) (hk : k.In) (w : World) : Calls Try.prog 15 #[k.v] w fun e w' => e = .returned (.int .i64 k.err) ∧ Below w.heap.size w w' := by
  obtain ⟨c, s, n, al, sh, ct⟩ := k
  obtain ⟨hc, hn, hs⟩ := hk
  simp only [] at hc hn hs
  generalize hS : signB s = S
  unfold Ky.err Ky.ok okS okN Ky.v
  simp only [hS]
  by_cases h1 : c = 1
  · subst h1
    go_enter Try.func15, Try.ntmps15
    go_wp2
    all_goals (go_ret; refine ⟨?_, (Below.refl _ _).alloc (Nat.le_refl _) _⟩; first | (simp_all; done) | (exfalso; simp_all; omega) | (simp_all; omega))
  by_cases h2 : c = 16
  · subst h2
    go_enter Try.func15, Try.ntmps15
    go_wp2
    all_goals (go_ret; refine ⟨?_, (Below.refl _ _).alloc (Nat.le_refl _) _⟩; first | (simp_all; done) | (exfalso; simp_all; omega) | (simp_all; omega))
  by_cases h3 : c = 17
  · subst h3
    go_enter Try.func15, Try.ntmps15
    go_wp2_with (go_at_call 41; refine (wsign s hs _).mono ?_)
    all_goals (rintro e w1 ⟨rfl, rfl⟩; rw [hS]; clear hS)
    all_goals cases S
    all_goals go_wp2
    all_goals (go_ret; refine ⟨?_, (Below.refl _ _).alloc (Nat.le_refl _) _⟩; first | (simp_all; done) | (exfalso; simp_all; omega) | (simp_all; omega))
  by_cases h4 : c = 18
  · subst h4
    go_enter Try.func15, Try.ntmps15
    go_wp2
    all_goals (go_ret; refine ⟨?_, (Below.refl _ _).alloc (Nat.le_refl _) _⟩; first | (simp_all; done) | (exfalso; simp_all; omega) | (simp_all; omega))
  · go_enter Try.func15, Try.ntmps15
    go_wp2
    all_goals (go_ret; refine ⟨?_, (Below.refl _ _).alloc (Nat.le_refl _) _⟩; first | (simp_all; done) | (exfalso; simp_all; omega) | (simp_all; omega))
set_option maxHeartbeats 800000 in
theorem wcheckR (k : Ky) (hk : k.In) (w : World) : Calls Try.prog 16 #[k.v] w fun e w' => e = .returned (.int .i64 k.err) ∧ Below w.heap.size w w' := by
  obtain ⟨c, s, n, al, sh, ct⟩ := k
  obtain ⟨hc, hn, hs⟩ := hk
  simp only [] at hc hn hs
  generalize hS : signB s = S
  unfold Ky.err Ky.ok okS okN Ky.v
  simp only [hS]
  by_cases h1 : c = 1
  · subst h1
    go_enter Try.func16, Try.ntmps16
    go_wp2
    all_goals (go_ret; refine ⟨?_, (Below.refl _ _).alloc (Nat.le_refl _) _⟩; first | (simp_all; done) | (exfalso; simp_all; omega) | (simp_all; omega))
  by_cases h2 : c = 16
  · subst h2
    go_enter Try.func16, Try.ntmps16
    go_wp2
    all_goals (go_ret; refine ⟨?_, (Below.refl _ _).alloc (Nat.le_refl _) _⟩; first | (simp_all; done) | (exfalso; simp_all; omega) | (simp_all; omega))
  by_cases h3 : c = 17
  · subst h3
    go_enter Try.func16, Try.ntmps16
    go_wp2_with (go_at_call 42; refine (wctrl s hs _).mono ?_)
    all_goals (rintro e w1 ⟨rfl, rfl⟩; rw [hS]; clear hS)
    all_goals cases S
    all_goals go_wp2
    all_goals (go_ret; refine ⟨?_, (Below.refl _ _).alloc (Nat.le_refl _) _⟩; first | (simp_all; done) | (exfalso; simp_all; omega) | (simp_all; omega))
  by_cases h4 : c = 18
  · subst h4
    go_enter Try.func16, Try.ntmps16
    go_wp2
    all_goals (go_ret; refine ⟨?_, (Below.refl _ _).alloc (Nat.le_refl _) _⟩; first | (simp_all; done) | (exfalso; simp_all; omega) | (simp_all; omega))
  · go_enter Try.func16, Try.ntmps16
    go_wp2
    all_goals (go_ret; refine ⟨?_, (Below.refl _ _).alloc (Nat.le_refl _) _⟩; first | (simp_all; done) | (exfalso; simp_all; omega) | (simp_all; omega))
end Go.Proofs.Ythkcfdnenbboaaa
