/- Plain words: runes of bytes, bytes of runes; the small walks of package runes. -/
import Derived.Test.YtdomglkcfecnnaaGreatH0
namespace Go.Proofs.YtdomglkcfecnnaaGreat
open Go.RowKit Go.Shelf
abbrev Bs := List UInt8
def tx (l : Bs) : ByteArray := ⟨l.toArray⟩
/-- A first byte: how many, the bounds of the second, the bits. -/
structure Shp where
  m : Nat
  lo : Nat
  hi : Nat
  r : Int
deriving DecidableEq
def shp (c : Nat) : Shp :=
  if c < 128 then ⟨1, 0, 0, c⟩ else if c < 194 then ⟨0, 0, 0, 0⟩ else if c < 224 then ⟨2, 128, 191, (c % 32 : Nat)⟩ else if c = 224 then ⟨3, 160, 191, 0⟩
  else if c = 237 then ⟨3, 128, 159, 13⟩ else if c < 240 then ⟨3, 128, 191, (c % 16 : Nat)⟩ else if c = 240 then ⟨4, 144, 191, 0⟩ else if c < 244 then ⟨4, 128, 191, (c % 8 : Nat)⟩
  else if c = 244 then ⟨4, 128, 143, 4⟩ else ⟨0, 0, 0, 0⟩
def Shp.cells (s : Shp) : Array Value := #[.int .i64 s.m, .int .u8 s.lo, .int .u8 s.hi, .int .i32 s.r]
def Shp.v (s : Shp) : Value := .agg s.cells
def ShpAt (w : World) (b : Nat) (s : Shp) : Prop := w.heap[b]? = some (.cells s.cells 235 (0, 0))
theorem ShpAt.get {w : World} {b : Nat} {s : Shp} (h : ShpAt w b s) : w.cell? ⟨b, 0, none⟩ = some (.int .i64 s.m) ∧ w.cell? ⟨b, 1, none⟩ = some (.int .u8 s.lo) ∧ w.cell? ⟨b, 2, none⟩ = some (.int .u8 s.hi) ∧ w.cell? ⟨b, 3, none⟩ = some (.int .i32 s.r) := by
  unfold ShpAt Shp.cells at h
  refine ⟨?_, ?_, ?_, ?_⟩ <;> simp [World.cell?, h]
theorem wsix (r : Int) (at_ : Nat) (hat : at_ ≤ 32) (w : World) : Calls Tryz.prog 144 #[.int .i32 r, .int .u64 at_] w fun e w' => e = .returned (.int .u8 (128 + (r / 2 ^ at_) % 64)) ∧ w = w' := by
  have e : min at_ 32 = at_ := by omega
  go_enter Tryz.func144, Tryz.ntmps144
  go_wp2
  go_ret
  exact ⟨rfl, rfl⟩
set_option maxRecDepth 100000 in
set_option maxHeartbeats 4000000 in
theorem wshape (c : Nat) (hc : c < 256) (w : World) : Calls Tryz.prog 157 #[.int .u8 c] w fun e w' => e = .returned (shp c).v ∧ Below w.heap.size w w' := by
  have HE : Hid (∀ s : Shp, s.v = .agg s.cells) := Lib.hid (fun _ => rfl)
  have z0 : (0 : Int) ≤ (c : Int) := by omega
  have z1 : (c : Int) < 256 := by omega
  by_cases h1 : c < 128
  · have HS := Lib.hid (show shp c = ⟨1, 0, 0, c⟩ by unfold shp; simp [h1])
    go_enter Tryz.func157, Tryz.ntmps157
    go_wp2
    refine bodyPost_ret (results_cell rfl _ _ w.heap.size 235 _ (0, 0) _ rfl (heap_alloc_new _ _) Tryz.underlying235 rfl (by kernel_rfl)) rfl ?_
    exact ⟨by rw [HS.out, HE.out]; rfl, (Below.refl _ _).alloc (Nat.le_refl _) _⟩
  · skip
    by_cases h2 : c < 194
    · have HS := Lib.hid (show shp c = ⟨0, 0, 0, 0⟩ by unfold shp; simp [h1, h2])
      go_enter Tryz.func157, Tryz.ntmps157
      go_wp2
      refine bodyPost_ret (results_cell rfl _ _ w.heap.size 235 _ (0, 0) _ rfl (heap_alloc_new _ _) Tryz.underlying235 rfl (by kernel_rfl)) rfl ?_
      exact ⟨by rw [HS.out, HE.out]; rfl, (Below.refl _ _).alloc (Nat.le_refl _) _⟩
    · skip
      by_cases h3 : c < 224
      · have HS := Lib.hid (show shp c = ⟨2, 128, 191, (c % 32 : Nat)⟩ by unfold shp; simp [h1, h2, h3])
        go_enter Tryz.func157, Tryz.ntmps157
        go_wp2
        refine bodyPost_ret (results_cell rfl _ _ w.heap.size 235 _ (0, 0) _ rfl (heap_alloc_new _ _) Tryz.underlying235 rfl (by kernel_rfl)) rfl ?_
        exact ⟨by rw [HS.out, HE.out]; rfl, (Below.refl _ _).alloc (Nat.le_refl _) _⟩
      · skip
        by_cases h4 : c = 224
        · subst h4
          have HS := Lib.hid (show shp 224 = ⟨3, 160, 191, 0⟩ by decide)
          go_enter Tryz.func157, Tryz.ntmps157
          go_wp2
          refine bodyPost_ret (results_cell rfl _ _ w.heap.size 235 _ (0, 0) _ rfl (heap_alloc_new _ _) Tryz.underlying235 rfl (by kernel_rfl)) rfl ?_
          exact ⟨by rw [HS.out, HE.out]; rfl, (Below.refl _ _).alloc (Nat.le_refl _) _⟩
        · have b4 : ((c : Int) == 224) = false := by rw [beq_eq_false_iff_ne]; omega
          by_cases h5 : c = 237
          · subst h5
            have HS := Lib.hid (show shp 237 = ⟨3, 128, 159, 13⟩ by decide)
            go_enter Tryz.func157, Tryz.ntmps157
            go_wp2
            refine bodyPost_ret (results_cell rfl _ _ w.heap.size 235 _ (0, 0) _ rfl (heap_alloc_new _ _) Tryz.underlying235 rfl (by kernel_rfl)) rfl ?_
            exact ⟨by rw [HS.out, HE.out]; rfl, (Below.refl _ _).alloc (Nat.le_refl _) _⟩
          · have b5 : ((c : Int) == 237) = false := by rw [beq_eq_false_iff_ne]; omega
            by_cases h6 : c < 240
            · have HS := Lib.hid (show shp c = ⟨3, 128, 191, (c % 16 : Nat)⟩ by unfold shp; simp [h1, h2, h3, h4, h5, h6])
              go_enter Tryz.func157, Tryz.ntmps157
              go_wp2
              refine bodyPost_ret (results_cell rfl _ _ w.heap.size 235 _ (0, 0) _ rfl (heap_alloc_new _ _) Tryz.underlying235 rfl (by kernel_rfl)) rfl ?_
              exact ⟨by rw [HS.out, HE.out]; rfl, (Below.refl _ _).alloc (Nat.le_refl _) _⟩
            · skip
              by_cases h7 : c = 240
              · subst h7
                have HS := Lib.hid (show shp 240 = ⟨4, 144, 191, 0⟩ by decide)
                go_enter Tryz.func157, Tryz.ntmps157
                go_wp2
                refine bodyPost_ret (results_cell rfl _ _ w.heap.size 235 _ (0, 0) _ rfl (heap_alloc_new _ _) Tryz.underlying235 rfl (by kernel_rfl)) rfl ?_
                exact ⟨by rw [HS.out, HE.out]; rfl, (Below.refl _ _).alloc (Nat.le_refl _) _⟩
              · have b7 : ((c : Int) == 240) = false := by rw [beq_eq_false_iff_ne]; omega
                by_cases h8 : c < 244
                · have HS := Lib.hid (show shp c = ⟨4, 128, 191, (c % 8 : Nat)⟩ by unfold shp; simp [h1, h2, h3, h4, h5, h6, h7, h8])
                  go_enter Tryz.func157, Tryz.ntmps157
                  go_wp2
                  refine bodyPost_ret (results_cell rfl _ _ w.heap.size 235 _ (0, 0) _ rfl (heap_alloc_new _ _) Tryz.underlying235 rfl (by kernel_rfl)) rfl ?_
                  exact ⟨by rw [HS.out, HE.out]; rfl, (Below.refl _ _).alloc (Nat.le_refl _) _⟩
                · skip
                  by_cases h9 : c = 244
                  · subst h9
                    have HS := Lib.hid (show shp 244 = ⟨4, 128, 143, 4⟩ by decide)
                    go_enter Tryz.func157, Tryz.ntmps157
                    go_wp2
                    refine bodyPost_ret (results_cell rfl _ _ w.heap.size 235 _ (0, 0) _ rfl (heap_alloc_new _ _) Tryz.underlying235 rfl (by kernel_rfl)) rfl ?_
                    exact ⟨by rw [HS.out, HE.out]; rfl, (Below.refl _ _).alloc (Nat.le_refl _) _⟩
                  · have b9 : ((c : Int) == 244) = false := by rw [beq_eq_false_iff_ne]; omega
                    have HS := Lib.hid (show shp c = ⟨0, 0, 0, 0⟩ by unfold shp; simp [h1, h2, h3, h4, h5, h6, h7, h8, h9])
                    go_enter Tryz.func157, Tryz.ntmps157
                    go_wp2
                    refine bodyPost_ret (results_cell rfl _ _ w.heap.size 235 _ (0, 0) _ rfl (heap_alloc_new _ _) Tryz.underlying235 rfl (by kernel_rfl)) rfl ?_
                    exact ⟨by rw [HS.out, HE.out]; rfl, (Below.refl _ _).alloc (Nat.le_refl _) _⟩
end Go.Proofs.YtdomglkcfecnnaaGreat
