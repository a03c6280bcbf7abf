/- Own words for a region's steps. -/
import Derived.WalkKit
import Derived.OrdersHeld
import Derived.RegionTactic
import Derived.Lib.Hide
namespace Go.Proofs.YtpcbamcelpcigaaGreat
section
open Go
variable {P : Program} {ops : Array Oper} {Q : Exit → Act → World → Prop} {md : Region.Mode} {S : World → Prop}
theorem tkH {i : Nat} {oi : Oper} {v : Value} {fuel : Nat} {x : Array Bool} {a : Act} {w : World} (hS : S w) (h : wpAnyH P md ops Q S fuel (x.setIfInBounds i true) (a.put oi.dst v) w) (hi : ops[i]? = some oi := by exact rfl)
  (hs : Region.noSelect ops = true := by kernel_rfl) (hf : Region.free md ops x i = true := by kernel_rfl) (hr : (Region.ready md ops x).contains i = true := by kernel_rfl)
  (hQ : ∀ c a w, Q (.panic c) (a.put oi.dst v) w → Q (.panic c) a w := by exact fun _ _ _ h => h)
  (hy : YieldsIf P ops S oi v a := by exact Or.inl ⟨by rfl, by intro w hSw; (try dsimp only at hSw); go_simp; try (with_reducible rfl)⟩) : wpAnyH P md ops Q S (fuel + 1) x a w := wpAnyH_take hi hs hf hr hQ hy hS h
end
theorem zz1 {α : Type _} (l : List α) (i : Nat) (v : α) : l.toArray.setIfInBounds i v = (l.set i v).toArray := List.setIfInBounds_toArray ..
theorem zz2 {α : Type _} (x : α) (l : List α) (a : α) : (x :: l).set 0 a = a :: l := rfl
theorem zz3 {α : Type _} (x : α) (l : List α) (n : Nat) (a : α) : (x :: l).set (n + 1) a = x :: l.set n a := rfl
theorem zz4 {α : Type _} {l : List α} {i : Nat} (h : i < l.toArray.size) : l.toArray[i] = l[i]'(by simpa using h) := List.getElem_toArray ..
theorem zz5 {α : Type _} {x : α} {l : List α} {n : Nat} (h : n + 1 < (x :: l).length) : (x :: l)[n + 1] = l[n]'(Nat.lt_of_succ_lt_succ h) := rfl
theorem zz6 {α : Type _} {x : α} {l : List α} (h : 0 < (x :: l).length) : (x :: l)[0] = x := rfl
end Go.Proofs.YtpcbamcelpcigaaGreat
