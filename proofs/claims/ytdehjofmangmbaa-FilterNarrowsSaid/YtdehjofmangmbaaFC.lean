/- Walks: the reference's apart. -/
import Derived.Test.YtdehjofmangmbaaFB
namespace Go.Proofs.Ytdehjofmangmbaa
open Go.RowKit Go.Shelf
/-- What has been found with others between is a row of places of its own. -/
theorem spr_inv (o wd : List Bs) : ∀ (L : List Nat) (f : Fnd), L.foldl (sprR o wd) none = some f → ∃ i, chnS o wd i = some f.at_ ∧ f.gaps = gapN f.at_ ∧ f.rank = 4 := by
  have : ∀ (L : List Nat) (b : Option Fnd), (∀ f, b = some f → ∃ i, chnS o wd i = some f.at_ ∧ f.gaps = gapN f.at_ ∧ f.rank = 4) → ∀ f, L.foldl (sprR o wd) b = some f → ∃ i, chnS o wd i = some f.at_ ∧ f.gaps = gapN f.at_ ∧ f.rank = 4 := by
    intro L
    induction L with
    | nil => intro b hb f h; exact hb f h
    | cons j r ih =>
      intro b hb f h
      refine ih (sprR o wd b j) (fun f hf => ?_) f h
      cases hc : chnS o wd j with
      | none => rw [spr_none hc] at hf; exact hb f hf
      | some l =>
        rw [spr_some hc] at hf
        cases b with
        | none => cases hf; exact ⟨j, hc, rfl, rfl⟩
        | some x =>
          by_cases q : gapN l < x.gaps
          · have hf2 : (if gapN l < x.gaps then some (⟨4, gapN l, l⟩ : Fnd) else some x) = some f := hf
            rw [if_pos q] at hf2
            cases hf2
            exact ⟨j, hc, rfl, rfl⟩
          · have hf2 : (if gapN l < x.gaps then some (⟨4, gapN l, l⟩ : Fnd) else some x) = some f := hf
            rw [if_neg q] at hf2
            exact hb f hf2
  exact fun L f h => this L none (fun f h => by cases h) f h
def RfO (b : Nat) (W : World) (v : Value) (f : Option Fnd) : Prop := ∃ x c, v = .agg #[.bool f.isSome, .int .i64 (fnd0 f).rank, .slice x (fnd0 f).at_.length c] ∧ IntO b W (.slice x (fnd0 f).at_.length c) (fnd0 f).at_
def RfEnd (r : Option Fnd) (w : World) (e : Ending) (w' : World) : Prop := ∃ v, e = .returned v ∧ RfO w.heap.size w' v r ∧ Below w.heap.size w w'
/-- What apart's loop keeps. -/
def ApI (T : TypeId) (w : World) (b : Option Fnd) (W : World) : Prop := ∃ x c, C3 T W (w.heap.size + 1) (.bool b.isSome) (.int .i64 (fnd0 b).rank) (.slice x (fnd0 b).at_.length c) ∧ IntO w.heap.size W (.slice x (fnd0 b).at_.length c) (fnd0 b).at_ ∧ C3 T W w.heap.size (.bool false) (.int .i64 0) (.slice none 0 0) ∧ Below w.heap.size w W
theorem ApI.below {T : TypeId} {w : World} {b : Option Fnd} {W W' : World} (h : ApI T w b W) (hB : Below W.heap.size W W') : ApI T w b W' := by
  obtain ⟨x, c, h1, h2, h3, h4⟩ := h
  exact ⟨x, c, h1.below hB, h2.below hB, h3.below hB, h4.trans (below_le hB h4.size)⟩
theorem ApI.put {T : TypeId} {w : World} {b : Option Fnd} {W : World} {r g : Nat} {l : List Nat} {x : Option Addr} {c : Nat} (h : ApI T w b W) (hT : T ≠ 3) (hI : IntO w.heap.size W (.slice x l.length c) l) : ApI T w (some ⟨r, g, l⟩) (put3 W (w.heap.size + 1) (.bool true) (.int .i64 r) (.slice x l.length c)) := by
  obtain ⟨x0, c0, h1, h2, h3, h4⟩ := h
  exact ⟨x, c, h1.put, hI.put3 h1 hT, h3.kept (put3_other (by omega)), below_put3 h4 (by omega)⟩
end Go.Proofs.Ytdehjofmangmbaa
